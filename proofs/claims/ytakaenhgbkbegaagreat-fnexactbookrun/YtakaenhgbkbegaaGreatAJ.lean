/- Contracts of the functions of the program over slots and rows, each proved against the program itself; no condition beyond those that each theorem names. -/
import Derived.Test.YtakaenhgbkbegaaGreatRows
import Derived.ProofKit
import Derived.Test.YtakaenhgbkbegaaGreatAH
import Derived.Test.YtakaenhgbkbegaaGreatProg

set_option linter.unusedSimpArgs false
set_option linter.unusedVariables false

namespace Go.Proofs.YtakaenhgbkbegaaGreat

def headCodes : List Nat := [104, 97, 114, 110, 101, 115, 115, 32, 99, 48, 100, 55, 49, 50, 48, 100, 54, 51, 52, 52, 51, 53, 101, 100, 52, 56, 49, 51, 102, 98, 100, 56, 101, 98, 100, 54, 51, 56, 56, 56, 101, 100, 97, 99, 51, 57, 57, 57, 54, 56, 102, 99, 48, 102, 50, 98, 48, 50, 98, 97, 48, 57, 48, 101, 49, 48, 100, 49, 56, 55, 54, 97, 32, 99, 117, 116, 32, 97, 116, 32, 108, 111, 111, 112, 46, 101, 120, 97, 109, 112, 108, 101, 47, 100, 111, 109, 105, 110, 111, 116, 105, 108, 105, 110, 103, 115, 47, 108, 97, 119, 115, 46, 70, 110, 66, 111, 111, 107, 78, 101, 119, 32, 108, 111, 111, 112, 46, 101, 120, 97, 109, 112, 108, 101, 47, 100, 111, 109, 105, 110, 111, 116, 105, 108, 105, 110, 103, 115, 47, 108, 97, 119, 115, 46, 70, 110, 67, 101, 108, 108, 115, 76, 101, 102, 116, 32, 108, 111, 111, 112, 46, 101, 120, 97, 109, 112, 108, 101, 47, 100, 111, 109, 105, 110, 111, 116, 105, 108, 105, 110, 103, 115, 47, 108, 97, 119, 115, 46, 70, 110, 69, 120, 97, 99, 116, 66, 111, 111, 107, 68, 111, 32, 108, 111, 111, 112, 46, 101, 120, 97, 109, 112, 108, 101, 47, 100, 111, 109, 105, 110, 111, 116, 105, 108, 105, 110, 103, 115, 47, 108, 97, 119, 115, 46, 70, 110, 66, 111, 111, 107, 83, 111, 108, 118, 101, 100, 32, 108, 111, 111, 112, 46, 101, 120, 97, 109, 112, 108, 101, 47, 100, 111, 109, 105, 110, 111, 116, 105, 108, 105, 110, 103, 115, 47, 108, 97, 119, 115, 46, 70, 110, 69, 120, 97, 99, 116, 66, 111, 111, 107, 82, 117, 110, 32, 108, 111, 111, 112, 46, 101, 120, 97, 109, 112, 108, 101, 47, 100, 111, 109, 105, 110, 111, 116, 105, 108, 105, 110, 103, 115, 47, 108, 97, 119, 115, 46, 70, 110, 66, 111, 111, 107, 68, 111, 32, 108, 111, 111, 112, 46, 101, 120, 97, 109, 112, 108, 101, 47, 100, 111, 109, 105, 110, 111, 116, 105, 108, 105, 110, 103, 115, 47, 108, 97, 119, 115, 46, 70, 110, 66, 111, 111, 107, 82, 117, 110, 32, 108, 111, 111, 112, 46, 101, 120, 97, 109, 112, 108, 101, 47, 100, 111, 109, 105, 110, 111, 116, 105, 108, 105, 110, 103, 115, 47, 108, 97, 119, 115, 46, 70, 110, 69, 110, 100, 68, 101, 101, 100, 115]
theorem head_eq : Tryz.prog.initOrder = String.ofList (headCodes.map Char.ofNat) := by kernel_rfl
theorem head_list : Tryz.prog.initOrder.toList = headCodes.map Char.ofNat := by rw [head_eq, String.toList_ofList]
def restWords : List (List Nat) := [[97, 116], [108, 111, 111, 112, 46, 101, 120, 97, 109, 112, 108, 101, 47, 100, 111, 109, 105, 110, 111, 116, 105, 108, 105, 110, 103, 115, 47, 108, 97, 119, 115, 46, 70, 110, 66, 111, 111, 107, 78, 101, 119], [108, 111, 111, 112, 46, 101, 120, 97, 109, 112, 108, 101, 47, 100, 111, 109, 105, 110, 111, 116, 105, 108, 105, 110, 103, 115, 47, 108, 97, 119, 115, 46, 70, 110, 67, 101, 108, 108, 115, 76, 101, 102, 116], [108, 111, 111, 112, 46, 101, 120, 97, 109, 112, 108, 101, 47, 100, 111, 109, 105, 110, 111, 116, 105, 108, 105, 110, 103, 115, 47, 108, 97, 119, 115, 46, 70, 110, 69, 120, 97, 99, 116, 66, 111, 111, 107, 68, 111], [108, 111, 111, 112, 46, 101, 120, 97, 109, 112, 108, 101, 47, 100, 111, 109, 105, 110, 111, 116, 105, 108, 105, 110, 103, 115, 47, 108, 97, 119, 115, 46, 70, 110, 66, 111, 111, 107, 83, 111, 108, 118, 101, 100], [108, 111, 111, 112, 46, 101, 120, 97, 109, 112, 108, 101, 47, 100, 111, 109, 105, 110, 111, 116, 105, 108, 105, 110, 103, 115, 47, 108, 97, 119, 115, 46, 70, 110, 69, 120, 97, 99, 116, 66, 111, 111, 107, 82, 117, 110], [108, 111, 111, 112, 46, 101, 120, 97, 109, 112, 108, 101, 47, 100, 111, 109, 105, 110, 111, 116, 105, 108, 105, 110, 103, 115, 47, 108, 97, 119, 115, 46, 70, 110, 66, 111, 111, 107, 68, 111], [108, 111, 111, 112, 46, 101, 120, 97, 109, 112, 108, 101, 47, 100, 111, 109, 105, 110, 111, 116, 105, 108, 105, 110, 103, 115, 47, 108, 97, 119, 115, 46, 70, 110, 66, 111, 111, 107, 82, 117, 110], [108, 111, 111, 112, 46, 101, 120, 97, 109, 112, 108, 101, 47, 100, 111, 109, 105, 110, 111, 116, 105, 108, 105, 110, 103, 115, 47, 108, 97, 119, 115, 46, 70, 110, 69, 110, 100, 68, 101, 101, 100, 115]]
theorem head_words : behindMainWord (wordsSigns Tryz.prog.initOrder.toList) = [Char.ofNat 99, Char.ofNat 117, Char.ofNat 116] :: restWords.map (·.map Char.ofNat) := by
  rw [head_list]
  kernel_rfl
theorem strip_head : stripLifts liftWords ([Char.ofNat 99, Char.ofNat 117, Char.ofNat 116] :: restWords.map (·.map Char.ofNat)) = ([], [Char.ofNat 99, Char.ofNat 117, Char.ofNat 116] :: restWords.map (·.map Char.ofNat)) := by kernel_rfl
theorem fact_laysLater : Tryz.prog.laysLater = false := by kernel_rfl
theorem fact_bearsReflect : Tryz.prog.bearsReflect = false := by kernel_rfl
theorem fact_doorFits : Tryz.prog.doorFits [] = true := by kernel_rfl
theorem fact_headLifts : Tryz.prog.headLifts = [] := by
  unfold Program.headLifts
  rw [head_words, strip_head]
  kernel_rfl
theorem gc_no : ([Char.ofNat 99, Char.ofNat 117, Char.ofNat 116] == "gc".toList) = false := by kernel_rfl
theorem spec_no : ([Char.ofNat 99, Char.ofNat 117, Char.ofNat 116] == "spec".toList) = false := by kernel_rfl
theorem cut_yes : ([Char.ofNat 99, Char.ofNat 117, Char.ofNat 116] == "cut".toList) = true := by kernel_rfl
theorem make_of {P : Program} {c : List Char} {rest : List (List Char)} (h : behindMainWord (wordsSigns P.initOrder.toList) = c :: rest) (h1 : (c == "gc".toList) = false) (h2 : (c == "spec".toList) = false) (h3 : (c == "cut".toList) = true) : P.make = some .cut := by
  unfold Program.make
  rw [h]
  simp only [h1, h2, h3, Bool.or_false, Bool.true_or, Bool.false_eq_true, if_false, if_true]
theorem mayEnter_of {P : Program} {c : List Char} {rest : List (List Char)} (h : behindMainWord (wordsSigns P.initOrder.toList) = c :: rest) (hs : stripLifts liftWords (c :: rest) = ([], c :: rest)) (h3 : (c == "cut".toList) = true)
    (hl : P.laysLater = false) (hb : P.bearsReflect = false) (hd : P.doorFits [] = true) : P.mayEnter = true := by
  unfold Program.mayEnter
  rw [h]
  have hh : (some c == some "cut".toList) = true := by
    rw [show c = "cut".toList by simpa using h3]
    exact beq_self_eq_true _
  simp only [hs, hl, hb, hd, List.head?_cons, hh, Bool.not_false, Bool.or_true, Bool.and_true, List.contains_nil]
theorem fact_mayEnter : Tryz.prog.mayEnter = true := mayEnter_of head_words strip_head cut_yes fact_laysLater fact_bearsReflect fact_doorFits
theorem fact_make : Tryz.prog.make = some .cut := make_of head_words gc_no spec_no cut_yes
theorem fact_liftsFinal : Tryz.prog.liftsFinal = false := by
  unfold Program.liftsFinal
  rw [head_words, fact_headLifts]
  kernel_rfl
end Go.Proofs.YtakaenhgbkbegaaGreat

namespace Go.Proofs.YtakaenhgbkbegaaGreat
open Go.ChangeShapes Go.WideShapes Go.ChangeAt Go.RowKit Go.Proofs.Dev

theorem own : ownKnob Tryz.prog.godebug = none := by kernel_rfl
theorem laidOut : laidOutB Tryz.prog = true := by kernel_rfl
theorem cells5 : Tryz.prog.cellsOf 5 = 1 := by kernel_rfl
theorem readable22 : Tryz.prog.readableRec 22 = true := by kernel_rfl

theorem RL.cons0 {C : Ctx} {a : AV} {bs : List AV} {u : Value} {us : List Value} (h : R C a [] u) (h' : RL C bs [] us) : RL C (a :: bs) [] (u :: us) := by
  rw [RL]; exact ⟨[], [], u, us, rfl, rfl, h, h'⟩
theorem RL.nil0 {C : Ctx} : RL C [] [] [] := by rw [RL]; exact ⟨rfl, rfl⟩

/-- What holds of bytes that may be kept holds of bytes that are read alone. -/
theorem byte_law {P : Program} {f : Nat} {bs : List Int} (h : SoundAt P f [.sl 0 1 (u8s bs)] (.v (.bool true)) [.bot]) : SoundAt P f [.sl 1 1 (u8s bs)] (.v (.bool true)) [.bot] := by
  refine SoundAt.lift (n := 1) (fun C S us hr => noOL_ok _ S us (noOL_u8s 1 bs) hr) rfl ?_
  have e : vwL 0 [AV.sl 1 1 (u8s bs)] = [AV.sl 0 1 (u8s bs)] := by simp [vwL, vw]
  rw [e]
  exact h
end Go.Proofs.YtakaenhgbkbegaaGreat

namespace Go.Proofs.Dev

-- 2 parameters, results [.t 4], 12 slots, modes [false, false]
@[simp] abbrev n_laws_szBoolS : Nat := 129

def c_laws_szBoolS : ACode := .seq (.reg [.o 4 .mv [.k 0]]) <| .seq (.reg [.m 5 1, .m 6 0, .n 7 6, .o 8 (.bin .sub 0) [.t 5, .t 7], .m 1 8]) <|
 .seq (.seq (.reg [.m 9 1, .o 10 (.bin .lss 0) [.t 9, .k 0]]) <| .cond (.t 10) ( .seq (.reg [.o 4 .mv [.k (-1)]]) <| .ret) ( .skip)) <| .seq (.reg [.m 11 1,
 .m 4 11]) <| .ret

theorem k_laws_szBoolS : cFn Tryz.prog n_laws_szBoolS 12 [.t 4] c_laws_szBoolS := ⟨Tryz.f129, _, Tryz.func129, rfl, by kernel_rfl, by kernel_rfl, by kernel_rfl, by kernel_rfl⟩

-- 2 parameters, results [.t 4], 12 slots, modes [false, false]
@[simp] abbrev n_laws_szRegion : Nat := 76

def c_laws_szRegion : ACode := .seq (.reg [.o 2 .box [.t 0], .o 4 .mv [.k 0]]) <| .seq (.reg [.f 5 2 2, .l 6 5, .m 7 1, .o 8 (.call 129 []) [.t 6, .t 7],
 .m 1 8]) <| .seq (.seq (.reg [.m 9 1, .o 10 (.bin .lss 0) [.t 9, .k 0]]) <| .cond (.t 10) ( .seq (.reg [.o 4 .mv [.k (-1)]]) <| .ret) ( .skip)) <|
 .seq (.reg [.m 11 1, .m 4 11]) <| .ret

theorem k_laws_szRegion : cFn Tryz.prog n_laws_szRegion 12 [.t 4] c_laws_szRegion := ⟨Tryz.f76, _, Tryz.func76, rfl, by kernel_rfl, by kernel_rfl, by kernel_rfl, by kernel_rfl⟩

-- 1 parameters, results [.t 2], 22 slots, modes [false]
@[simp] abbrev n_laws_toBoolS : Nat := 138
def c_laws_toBoolS_L0 : ACode := .seq (.seq (.reg [.m 8 4, .m 9 0, .n 10 9, .o 11 (.bin .lss 0) [.t 8, .t 10]]) <| .cond (.t 11) ( .skip) ( .exit 0)) <|
 .seq (.block 1 ( .reg [.m 14 3, .m 15 4, .m 16 0, .m 17 4, .o 18 (.iadr 1) [.t 16, .t 17], .l 19 18, .o 20 (.iadr 1) [.t 14, .t 15], .s (.store 1) [.t 20,
 .t 19]])) <| .reg [.m 12 4, .o 13 (.bin .add 0) [.t 12, .k 1], .m 4 13]

def c_laws_toBoolS : ACode := .seq (.reg [.o 2 .mv [.c (.os 1 [])]]) <| .seq (.reg [.m 5 0, .n 6 5, .o 7 (.mksl 1 1 (.v (.bool false))) [.t 6, .t 6],
 .m 3 7]) <| .seq (.seq (.reg [.o 4 .mv [.k 0]]) <| .block 0 ( .loop [(0, 1), (3, 1)] [0, 3, 4] c_laws_toBoolS_L0)) <| .seq (.reg [.m 21 3, .m 2 21]) <| .ret

theorem k_laws_toBoolS : cFn Tryz.prog n_laws_toBoolS 22 [.t 2] c_laws_toBoolS := ⟨Tryz.f138, _, Tryz.func138, rfl, by kernel_rfl, by kernel_rfl, by kernel_rfl, by kernel_rfl⟩

-- 1 parameters, results [.t 2], 22 slots, modes [false]
@[simp] abbrev n_laws_toIntS : Nat := 87
def c_laws_toIntS_L0 : ACode := .seq (.seq (.reg [.m 8 4, .m 9 0, .n 10 9, .o 11 (.bin .lss 0) [.t 8, .t 10]]) <| .cond (.t 11) ( .skip) ( .exit 0)) <|
 .seq (.block 1 ( .reg [.m 14 3, .m 15 4, .m 16 0, .m 17 4, .o 18 (.iadr 1) [.t 16, .t 17], .l 19 18, .o 20 (.iadr 1) [.t 14, .t 15], .s (.store 1) [.t 20,
 .t 19]])) <| .reg [.m 12 4, .o 13 (.bin .add 0) [.t 12, .k 1], .m 4 13]

def c_laws_toIntS : ACode := .seq (.reg [.o 2 .mv [.c (.os 1 [])]]) <| .seq (.reg [.m 5 0, .n 6 5, .o 7 (.mksl 1 8 (.v (.int .i64 (0)))) [.t 6, .t 6],
 .m 3 7]) <| .seq (.seq (.reg [.o 4 .mv [.k 0]]) <| .block 0 ( .loop [(0, 1), (3, 1)] [0, 3, 4] c_laws_toIntS_L0)) <| .seq (.reg [.m 21 3, .m 2 21]) <| .ret

theorem k_laws_toIntS : cFn Tryz.prog n_laws_toIntS 22 [.t 2] c_laws_toIntS := ⟨Tryz.f87, _, Tryz.func87, rfl, by kernel_rfl, by kernel_rfl, by kernel_rfl, by kernel_rfl⟩

-- 1 parameters, results [.c 2 true 3], 15 slots, modes [false]
@[simp] abbrev n_laws_toRegion : Nat := 86

def c_laws_toRegion : ACode := .seq (.reg [.o 1 .box [.t 0], .o 2 (.alloc rz) []]) <| .seq (.reg [.o 3 (.alloc rz) []]) <| .seq (.reg [.f 4 0 1, .l 5 4,
 .f 6 0 3, .s (.store 1) [.t 6, .t 5]]) <| .seq (.reg [.f 7 1 1, .l 8 7, .f 9 1 3, .s (.store 1) [.t 9, .t 8]]) <| .seq (.reg [.f 10 2 1, .l 11 10,
 .o 12 (.call 138 []) [.t 11], .f 13 2 3, .s (.store 1) [.t 13, .t 12]]) <| .seq (.reg [.la 14 3 3, .s (.store 3) [.t 2, .t 14]]) <| .ret

theorem k_laws_toRegion : cFn Tryz.prog n_laws_toRegion 15 [.c 2 true 3] c_laws_toRegion := ⟨Tryz.f86, _, Tryz.func86, rfl, by kernel_rfl, by kernel_rfl, by kernel_rfl, by kernel_rfl⟩

-- 2 parameters, results [.t 4], 26 slots, modes [false, false]
@[simp] abbrev n_laws_eqBoolS : Nat := 139
def c_laws_eqBoolS_L0 : ACode := .seq (.seq (.reg [.m 11 5, .m 12 0, .n 13 12, .o 14 (.bin .lss 0) [.t 11, .t 13]]) <| .cond (.t 14) ( .skip) ( .exit 0)) <|
 .seq (.block 1 ( .seq (.draw ( .take (.m 17 0) <| .take (.m 18 5) <| .take (.o 19 (.iadr 1) [.t 17, .t 18]) <| .take (.m 21 1) <| .take (.m 22 5) <|
 .take (.o 23 (.iadr 1) [.t 21, .t 22]) <| .alt (.l 20 19) ( .al (.l 24 23) ( .take (.o 25 (.bin .neq 2) [.t 20, .t 24]) <| .done)) <|
 .al (.l 24 23) ( .al (.l 20 19) ( .take (.o 25 (.bin .neq 2) [.t 20, .t 24]) <| .done)))) <| .cond (.t 25) ( .seq (.reg [.o 4 .mv [.kb false]]) <|
 .ret) ( .skip))) <| .reg [.m 15 5, .o 16 (.bin .add 0) [.t 15, .k 1], .m 5 16]

def c_laws_eqBoolS : ACode := .seq (.reg [.o 4 .mv [.kb false]]) <| .seq (.seq (.reg [.m 6 0, .n 7 6, .m 8 1, .n 9 8, .o 10 (.bin .neq 0) [.t 7, .t 9]]) <|
 .cond (.t 10) ( .seq (.reg [.o 4 .mv [.kb false]]) <| .ret) ( .skip)) <| .seq (.seq (.reg [.o 5 .mv [.k 0]]) <| .block 0 ( .loop [(0, 1), (1, 1)] [0, 1,
 5] c_laws_eqBoolS_L0)) <| .seq (.reg [.o 4 .mv [.kb true]]) <| .ret

theorem k_laws_eqBoolS : cFn Tryz.prog n_laws_eqBoolS 26 [.t 4] c_laws_eqBoolS := ⟨Tryz.f139, _, Tryz.func139, rfl, by kernel_rfl, by kernel_rfl, by kernel_rfl, by kernel_rfl⟩

-- 2 parameters, results [.t 4], 26 slots, modes [false, false]
@[simp] abbrev n_laws_eqIntS : Nat := 90
def c_laws_eqIntS_L0 : ACode := .seq (.seq (.reg [.m 11 5, .m 12 0, .n 13 12, .o 14 (.bin .lss 0) [.t 11, .t 13]]) <| .cond (.t 14) ( .skip) ( .exit 0)) <|
 .seq (.block 1 ( .seq (.draw ( .take (.m 17 0) <| .take (.m 18 5) <| .take (.o 19 (.iadr 1) [.t 17, .t 18]) <| .take (.m 21 1) <| .take (.m 22 5) <|
 .take (.o 23 (.iadr 1) [.t 21, .t 22]) <| .alt (.l 20 19) ( .al (.l 24 23) ( .take (.o 25 (.bin .neq 0) [.t 20, .t 24]) <| .done)) <|
 .al (.l 24 23) ( .al (.l 20 19) ( .take (.o 25 (.bin .neq 0) [.t 20, .t 24]) <| .done)))) <| .cond (.t 25) ( .seq (.reg [.o 4 .mv [.kb false]]) <|
 .ret) ( .skip))) <| .reg [.m 15 5, .o 16 (.bin .add 0) [.t 15, .k 1], .m 5 16]

def c_laws_eqIntS : ACode := .seq (.reg [.o 4 .mv [.kb false]]) <| .seq (.seq (.reg [.m 6 0, .n 7 6, .m 8 1, .n 9 8, .o 10 (.bin .neq 0) [.t 7, .t 9]]) <|
 .cond (.t 10) ( .seq (.reg [.o 4 .mv [.kb false]]) <| .ret) ( .skip)) <| .seq (.seq (.reg [.o 5 .mv [.k 0]]) <| .block 0 ( .loop [(0, 1), (1, 1)] [0, 1,
 5] c_laws_eqIntS_L0)) <| .seq (.reg [.o 4 .mv [.kb true]]) <| .ret

theorem k_laws_eqIntS : cFn Tryz.prog n_laws_eqIntS 26 [.t 4] c_laws_eqIntS := ⟨Tryz.f90, _, Tryz.func90, rfl, by kernel_rfl, by kernel_rfl, by kernel_rfl, by kernel_rfl⟩

-- 2 parameters, results [.t 4], 21 slots, modes [false, false]
@[simp] abbrev n_laws_eqRegion : Nat := 89

def c_laws_eqRegion : ACode := .seq (.reg [.o 2 .box [.t 0], .o 3 .box [.t 1], .o 4 .mv [.kb false]]) <| .seq (.seq (.reg [.f 5 0 2, .l 6 5, .f 7 0 3, .l 8 7,
 .o 9 (.bin .neq 0) [.t 6, .t 8]]) <| .cond (.t 9) ( .seq (.reg [.o 4 .mv [.kb false]]) <| .ret) ( .skip)) <| .seq (.seq (.reg [.f 10 1 2, .l 11 10, .f 12 1 3,
 .l 13 12, .o 14 (.bin .neq 0) [.t 11, .t 13]]) <| .cond (.t 14) ( .seq (.reg [.o 4 .mv [.kb false]]) <| .ret) ( .skip)) <| .seq (.seq (.reg [.f 15 2 2,
 .l 16 15, .f 17 2 3, .l 18 17, .o 19 (.call 139 []) [.t 16, .t 18], .o 20 (.un .not) [.t 19]]) <| .cond (.t 20) ( .seq (.reg [.o 4 .mv [.kb false]]) <|
 .ret) ( .skip)) <| .seq (.reg [.o 4 .mv [.kb true]]) <| .ret

theorem k_laws_eqRegion : cFn Tryz.prog n_laws_eqRegion 21 [.t 4] c_laws_eqRegion := ⟨Tryz.f89, _, Tryz.func89, rfl, by kernel_rfl, by kernel_rfl, by kernel_rfl, by kernel_rfl⟩

-- 2 parameters, results [.t 4], 21 slots, modes [true, false]
@[simp] abbrev n_laws_markBoolS : Nat := 140
def c_laws_markBoolS_L0 : ACode := .seq (.seq (.reg [.m 6 5, .m 7 0, .n 8 7, .o 9 (.bin .lss 0) [.t 6, .t 8]]) <| .cond (.t 9) ( .skip) ( .exit 0)) <|
 .seq (.block 1 ( .seq (.reg [.m 12 0, .m 13 5, .m 14 1, .o 15 (.bin .rem 0) [.t 14, .k 3], .o 16 (.bin .eql 0) [.t 15, .k 0], .o 17 (.iadr 1) [.t 12, .t 13],
 .s (.store 1) [.t 17, .t 16]]) <| .reg [.m 18 1, .o 19 (.bin .add 0) [.t 18, .k 1], .m 1 19])) <| .reg [.m 10 5, .o 11 (.bin .add 0) [.t 10, .k 1], .m 5 11]

def c_laws_markBoolS : ACode := .seq (.reg [.o 4 .mv [.k 0]]) <| .seq (.seq (.reg [.o 5 .mv [.k 0]]) <| .block 0 ( .loop [(0, 1)] [0, 1, 5,
 21] c_laws_markBoolS_L0)) <| .seq (.reg [.m 20 1, .m 4 20]) <| .ret

theorem k_laws_markBoolS : cFn Tryz.prog n_laws_markBoolS 21 [.t 4] c_laws_markBoolS := ⟨Tryz.f140, _, Tryz.func140, rfl, by kernel_rfl, by kernel_rfl, by kernel_rfl, by kernel_rfl⟩

-- 2 parameters, results [.t 4], 19 slots, modes [true, false]
@[simp] abbrev n_laws_markIntS : Nat := 93
def c_laws_markIntS_L0 : ACode := .seq (.seq (.reg [.m 6 5, .m 7 0, .n 8 7, .o 9 (.bin .lss 0) [.t 6, .t 8]]) <| .cond (.t 9) ( .skip) ( .exit 0)) <|
 .seq (.block 1 ( .seq (.reg [.m 12 0, .m 13 5, .m 14 1, .o 15 (.iadr 1) [.t 12, .t 13], .s (.store 1) [.t 15, .t 14]]) <| .reg [.m 16 1,
 .o 17 (.bin .add 0) [.t 16, .k 1], .m 1 17])) <| .reg [.m 10 5, .o 11 (.bin .add 0) [.t 10, .k 1], .m 5 11]

def c_laws_markIntS : ACode := .seq (.reg [.o 4 .mv [.k 0]]) <| .seq (.seq (.reg [.o 5 .mv [.k 0]]) <| .block 0 ( .loop [(0, 1)] [0, 1, 5,
 19] c_laws_markIntS_L0)) <| .seq (.reg [.m 18 1, .m 4 18]) <| .ret

theorem k_laws_markIntS : cFn Tryz.prog n_laws_markIntS 19 [.t 4] c_laws_markIntS := ⟨Tryz.f93, _, Tryz.func93, rfl, by kernel_rfl, by kernel_rfl, by kernel_rfl, by kernel_rfl⟩

-- 2 parameters, results [.t 4], 10 slots, modes [true, false]
@[simp] abbrev n_laws_markRegion : Nat := 92

def c_laws_markRegion : ACode := .seq (.reg [.o 2 .box [.t 0], .o 4 .mv [.k 0]]) <| .seq (.reg [.f 5 2 2, .l 6 5, .m 7 1, .o 8 (.call 140 []) [.t 6, .t 7],
 .m 1 8]) <| .seq (.reg [.m 9 1, .m 4 9]) <| .ret

theorem k_laws_markRegion : cFn Tryz.prog n_laws_markRegion 10 [.t 4] c_laws_markRegion := ⟨Tryz.f92, _, Tryz.func92, rfl, by kernel_rfl, by kernel_rfl, by kernel_rfl, by kernel_rfl⟩

-- 2 parameters, results [.t 4], 21 slots, modes [false, false]
@[simp] abbrev n_laws_heldIntS : Nat := 96
def c_laws_heldIntS_L0 : ACode := .seq (.seq (.reg [.m 6 5, .m 7 0, .n 8 7, .o 9 (.bin .lss 0) [.t 6, .t 8]]) <| .cond (.t 9) ( .skip) ( .exit 0)) <|
 .seq (.block 1 ( .seq (.seq (.reg [.m 12 0, .m 13 5, .o 14 (.iadr 1) [.t 12, .t 13], .l 15 14, .m 16 1, .o 17 (.bin .neq 0) [.t 15, .t 16]]) <|
 .cond (.t 17) ( .seq (.reg [.o 4 .mv [.k (-1)]]) <| .ret) ( .skip)) <| .reg [.m 18 1, .o 19 (.bin .add 0) [.t 18, .k 1], .m 1 19])) <| .reg [.m 10 5,
 .o 11 (.bin .add 0) [.t 10, .k 1], .m 5 11]

def c_laws_heldIntS : ACode := .seq (.reg [.o 4 .mv [.k 0]]) <| .seq (.seq (.reg [.o 5 .mv [.k 0]]) <| .block 0 ( .loop [(0, 1)] [0, 1,
 5] c_laws_heldIntS_L0)) <| .seq (.reg [.m 20 1, .m 4 20]) <| .ret

theorem k_laws_heldIntS : cFn Tryz.prog n_laws_heldIntS 21 [.t 4] c_laws_heldIntS := ⟨Tryz.f96, _, Tryz.func96, rfl, by kernel_rfl, by kernel_rfl, by kernel_rfl, by kernel_rfl⟩

-- 3 parameters, results [.t 6], 15 slots, modes [false, false, false]
@[simp] abbrev n_spec_l1In : Nat := 62

def c_spec_l1In : ACode := .seq (.reg [.o 6 .mv [.kb false]]) <| .seq (.reg [.m 7 0, .m 8 1, .o 9 (.bin .geq 0) [.t 7, .t 8], .m 10 9, .mg 11 0 10 true,
 .mg 12 2 10 true, .g 13 (.bin .leq 0) [.t 11, .t 12] 10 true, .o 14 .pick [.t 10, .t 13, .kb false], .m 6 14]) <| .ret

theorem k_spec_l1In : cFn Tryz.prog n_spec_l1In 15 [.t 6] c_spec_l1In := ⟨Tryz.f62, _, Tryz.func62, rfl, by kernel_rfl, by kernel_rfl, by kernel_rfl, by kernel_rfl⟩

-- 1 parameters, results [.t 2], 18 slots, modes [false]
@[simp] abbrev n_spec_l1Count : Nat := 120
def c_spec_l1Count_L0 : ACode := .seq (.seq (.reg [.m 5 4, .m 6 0, .n 7 6, .o 8 (.bin .lss 0) [.t 5, .t 7]]) <| .cond (.t 8) ( .skip) ( .exit 0)) <|
 .seq (.block 1 ( .seq (.reg [.m 11 0, .m 12 4, .o 13 (.iadr 1) [.t 11, .t 12], .l 14 13]) <| .cond (.t 14) ( .reg [.m 15 3, .o 16 (.bin .add 0) [.t 15, .k 1],
 .m 3 16]) ( .skip))) <| .reg [.m 9 4, .o 10 (.bin .add 0) [.t 9, .k 1], .m 4 10]

def c_spec_l1Count : ACode := .seq (.reg [.o 2 .mv [.k 0]]) <| .seq (.reg [.o 3 .mv [.k 0]]) <| .seq (.seq (.reg [.o 4 .mv [.k 0]]) <| .block 0 ( .loop [(0,
 1)] [0, 3, 4] c_spec_l1Count_L0)) <| .seq (.reg [.m 17 3, .m 2 17]) <| .ret

theorem k_spec_l1Count : cFn Tryz.prog n_spec_l1Count 18 [.t 2] c_spec_l1Count := ⟨Tryz.f120, _, Tryz.func120, rfl, by kernel_rfl, by kernel_rfl, by kernel_rfl, by kernel_rfl⟩

-- 1 parameters, results [.t 2], 28 slots, modes [false]
@[simp] abbrev n_spec_RegionValid : Nat := 61

def c_spec_RegionValid : ACode := .seq (.reg [.o 1 .box [.t 0], .o 2 .mv [.kb false]]) <| .seq (.reg [.f 3 0 1, .l 4 3, .o 5 (.call 62 []) [.t 4, .k 1, .k 6],
 .m 6 5, .fg 7 1 1 6 true, .lg 8 7 6 true, .g 9 (.call 62 []) [.t 8, .k 1, .k 6] 6 true, .o 10 .pick [.t 6, .t 9, .kb false], .m 11 10, .fg 12 2 1 11 true,
 .lg 13 12 11 true, .g 14 (.len false) [.t 13] 11 true, .fg 15 0 1 11 true, .lg 16 15 11 true, .fg 17 1 1 11 true, .lg 18 17 11 true, .g 19 (.bin .mul 0) [.t 16,
 .t 18] 11 true, .g 20 (.bin .eql 0) [.t 14, .t 19] 11 true, .o 21 .pick [.t 11, .t 20, .kb false], .m 22 21, .fg 23 2 1 22 true, .lg 24 23 22 true,
 .g 25 (.call 120 []) [.t 24] 22 true, .g 26 (.bin .leq 0) [.t 25, .k 24] 22 true, .o 27 .pick [.t 22, .t 26, .kb false], .m 2 27]) <| .ret

theorem k_spec_RegionValid : cFn Tryz.prog n_spec_RegionValid 28 [.t 2] c_spec_RegionValid := ⟨Tryz.f61, _, Tryz.func61, rfl, by kernel_rfl, by kernel_rfl, by kernel_rfl, by kernel_rfl⟩

-- 2 parameters, results [.t 4], 51 slots, modes [false, false]
@[simp] abbrev n_spec_PuzzleValid : Nat := 15
def c_spec_PuzzleValid_L0 : ACode := .seq (.seq (.reg [.m 17 5, .m 18 1, .n 19 18, .o 20 (.bin .lss 0) [.t 17, .t 19]]) <| .cond (.t 20) ( .skip) ( .exit 0)) <|
 .seq (.block 1 ( .seq (.reg [.f 23 2 2, .l 24 23, .m 25 5, .o 26 (.iadr 1) [.t 24, .t 25], .l 27 26, .m 28 27, .mg 29 1 28 true, .mg 30 5 28 true,
 .g 31 (.iadr 1) [.t 29, .t 30] 28 true, .lg 32 31 28 true, .g 33 (.call 62 []) [.t 32, .k 0, .k 6] 28 true, .g 34 (.un .not) [.t 33] 28 true,
 .o 35 .pick [.t 28, .t 34, .kb false], .m 36 35, .fg 37 2 2 36 false, .lg 38 37 36 false, .mg 39 5 36 false, .g 40 (.iadr 1) [.t 38, .t 39] 36 false,
 .lg 41 40 36 false, .g 42 (.un .not) [.t 41] 36 false, .mg 43 42 36 false, .mg 44 1 43 true, .mg 45 5 43 true, .g 46 (.iadr 1) [.t 44, .t 45] 43 true,
 .lg 47 46 43 true, .g 48 (.bin .neq 0) [.t 47, .k (-1)] 43 true, .g 49 .pick [.t 43, .t 48, .kb false] 36 false, .o 50 .pick [.t 36, .kb true, .t 49]]) <|
 .cond (.t 50) ( .seq (.reg [.o 4 .mv [.kb false]]) <| .ret) ( .skip))) <| .reg [.m 21 5, .o 22 (.bin .add 0) [.t 21, .k 1], .m 5 22]

def c_spec_PuzzleValid : ACode := .seq (.reg [.o 2 .box [.t 0], .o 4 .mv [.kb false]]) <| .seq (.seq (.reg [.la 6 3 2, .o 7 (.call 61 []) [.t 6],
 .o 8 (.un .not) [.t 7], .m 9 8, .mg 10 1 9 false, .g 11 (.len false) [.t 10] 9 false, .fg 12 2 2 9 false, .lg 13 12 9 false, .g 14 (.len false) [.t 13] 9 false,
 .g 15 (.bin .neq 0) [.t 11, .t 14] 9 false, .o 16 .pick [.t 9, .kb true, .t 15]]) <| .cond (.t 16) ( .seq (.reg [.o 4 .mv [.kb false]]) <| .ret) ( .skip)) <|
 .seq (.seq (.reg [.o 5 .mv [.k 0]]) <| .block 0 ( .loop [(1, 1)] [1, 2, 5] c_spec_PuzzleValid_L0)) <| .seq (.reg [.o 4 .mv [.kb true]]) <| .ret

theorem k_spec_PuzzleValid : cFn Tryz.prog n_spec_PuzzleValid 51 [.t 4] c_spec_PuzzleValid := ⟨Tryz.f15, _, Tryz.func15, rfl, by kernel_rfl, by kernel_rfl, by kernel_rfl, by kernel_rfl⟩

-- 3 parameters, results [.t 6], 65 slots, modes [false, false, false]
@[simp] abbrev n_spec_l2Step : Nat := 132

def c_spec_l2Step : ACode := .seq (.reg [.o 3 .box [.t 0], .o 6 .mv [.k 0]]) <| .seq (.block 0 ( .seq (.draw ( .take (.m 8 2) <|
 .take (.o 9 (.bin .eql 0) [.t 8, .k 1]) <| .take (.m 10 9) <| .take (.mg 11 1 10 true) <| .take (.fg 12 0 3 10 true) <| .take (.fg 15 0 3 10 true) <|
 .alt (.lg 13 12 10 true) ( .take (.g 14 (.bin .rem 0) [.t 11, .t 13] 10 true) <| .al (.lg 16 15 10 true) ( .take (.g 17 (.bin .sub 0) [.t 16, .k 1] 10 true) <|
 .take (.g 18 (.bin .lss 0) [.t 14, .t 17] 10 true) <| .take (.o 19 .pick [.t 10, .t 18, .kb false]) <| .take (.m 7 19) <| .done)) <|
 .al (.lg 16 15 10 true) ( .take (.g 17 (.bin .sub 0) [.t 16, .k 1] 10 true) <| .al (.lg 13 12 10 true) ( .take (.g 14 (.bin .rem 0) [.t 11, .t 13] 10 true) <|
 .take (.g 18 (.bin .lss 0) [.t 14, .t 17] 10 true) <| .take (.o 19 .pick [.t 10, .t 18, .kb false]) <| .take (.m 7 19) <| .done)))) <|
 .cond (.t 7) ( .seq (.reg [.m 20 1, .o 21 (.bin .add 0) [.t 20, .k 1], .m 6 21]) <| .ret) ( .seq (.draw ( .take (.m 23 2) <| .take (.o 24 (.bin .eql 0) [.t 23,
 .k 2]) <| .take (.m 25 24) <| .take (.mg 26 1 25 true) <| .take (.fg 27 0 3 25 true) <| .take (.fg 30 1 3 25 true) <|
 .alt (.lg 28 27 25 true) ( .take (.g 29 (.bin .quo 0) [.t 26, .t 28] 25 true) <| .al (.lg 31 30 25 true) ( .take (.g 32 (.bin .sub 0) [.t 31, .k 1] 25 true) <|
 .take (.g 33 (.bin .lss 0) [.t 29, .t 32] 25 true) <| .take (.o 34 .pick [.t 25, .t 33, .kb false]) <| .take (.m 22 34) <| .done)) <|
 .al (.lg 31 30 25 true) ( .take (.g 32 (.bin .sub 0) [.t 31, .k 1] 25 true) <| .al (.lg 28 27 25 true) ( .take (.g 29 (.bin .quo 0) [.t 26, .t 28] 25 true) <|
 .take (.g 33 (.bin .lss 0) [.t 29, .t 32] 25 true) <| .take (.o 34 .pick [.t 25, .t 33, .kb false]) <| .take (.m 22 34) <| .done)))) <|
 .cond (.t 22) ( .seq (.reg [.m 35 1, .f 36 0 3, .l 37 36, .o 38 (.bin .add 0) [.t 35, .t 37], .m 6 38]) <| .ret) ( .seq (.reg [.m 40 2,
 .o 41 (.bin .eql 0) [.t 40, .k 3], .m 42 41, .mg 43 1 42 true, .fg 44 0 3 42 true, .lg 45 44 42 true, .g 46 (.bin .rem 0) [.t 43, .t 45] 42 true,
 .g 47 (.bin .gtr 0) [.t 46, .k 0] 42 true, .o 48 .pick [.t 42, .t 47, .kb false], .m 39 48]) <| .cond (.t 39) ( .seq (.reg [.m 49 1, .o 50 (.bin .sub 0) [.t 49,
 .k 1], .m 6 50]) <| .ret) ( .seq (.reg [.m 52 2, .o 53 (.bin .eql 0) [.t 52, .k 4], .m 54 53, .mg 55 1 54 true, .fg 56 0 3 54 true, .lg 57 56 54 true,
 .g 58 (.bin .quo 0) [.t 55, .t 57] 54 true, .g 59 (.bin .gtr 0) [.t 58, .k 0] 54 true, .o 60 .pick [.t 54, .t 59, .kb false], .m 51 60]) <|
 .cond (.t 51) ( .seq (.reg [.m 61 1, .f 62 0 3, .l 63 62, .o 64 (.bin .sub 0) [.t 61, .t 63], .m 6 64]) <| .ret) ( .skip)))))) <|
 .seq (.reg [.o 6 .mv [.k (-1)]]) <| .ret

theorem k_spec_l2Step : cFn Tryz.prog n_spec_l2Step 65 [.t 6] c_spec_l2Step := ⟨Tryz.f132, _, Tryz.func132, rfl, by kernel_rfl, by kernel_rfl, by kernel_rfl, by kernel_rfl⟩

-- 1 parameters, results [.t 2], 7 slots, modes [false]
@[simp] abbrev n_spec_l2Back : Nat := 131

def c_spec_l2Back : ACode := .seq (.reg [.o 2 .mv [.k 0]]) <| .seq (.reg [.m 3 0, .o 4 (.bin .add 0) [.t 3, .k 1], .o 5 (.bin .rem 0) [.t 4, .k 4],
 .o 6 (.bin .add 0) [.t 5, .k 1], .m 2 6]) <| .ret

theorem k_spec_l2Back : cFn Tryz.prog n_spec_l2Back 7 [.t 2] c_spec_l2Back := ⟨Tryz.f131, _, Tryz.func131, rfl, by kernel_rfl, by kernel_rfl, by kernel_rfl, by kernel_rfl⟩

-- 2 parameters, results [.t 4], 72 slots, modes [false, false]
@[simp] abbrev n_spec_LaidOk : Nat := 128
abbrev c_spec_LaidOk_L0_p0 : Plan := .take (.g 70 (.bin .neq 0) [.t 64, .t 69] 60 false) <| .take (.o 71 .pick [.t 60, .kb true, .t 70]) <| .done
abbrev c_spec_LaidOk_L0_p1 : Plan := .al (.o 49 (.call 132 []) [.t 43, .t 44, .t 48]) ( .take (.m 6 49) <| .done)
abbrev c_spec_LaidOk_L0_p2 : Plan := .al (.g 69 (.call 131 []) [.t 68] 60 false) c_spec_LaidOk_L0_p0
def c_spec_LaidOk_L0 : ACode := .seq (.seq (.reg [.m 18 5, .m 19 1, .n 20 19, .o 21 (.bin .lss 0) [.t 18, .t 20]]) <| .cond (.t 21) ( .skip) ( .exit 0)) <|
 .seq (.block 1 ( .seq (.seq (.reg [.m 24 1, .m 25 5, .o 26 (.iadr 1) [.t 24, .t 25], .l 27 26, .o 28 (.bin .eql 0) [.t 27, .k 0]]) <|
 .cond (.t 28) ( .exit 1) ( .skip)) <| .seq (.seq (.reg [.m 29 1, .m 30 5, .o 31 (.iadr 1) [.t 29, .t 30], .l 32 31, .o 33 (.call 62 []) [.t 32, .k 1, .k 4],
 .o 34 (.un .not) [.t 33], .m 35 34, .fg 36 2 2 35 false, .lg 37 36 35 false, .mg 38 5 35 false, .g 39 (.iadr 1) [.t 37, .t 38] 35 false, .lg 40 39 35 false,
 .g 41 (.un .not) [.t 40] 35 false, .o 42 .pick [.t 35, .kb true, .t 41]]) <| .cond (.t 42) ( .seq (.reg [.o 4 .mv [.kb false]]) <| .ret) ( .skip)) <|
 .seq (.draw ( .take (.m 44 5) <| .take (.m 45 1) <| .take (.m 46 5) <| .take (.o 47 (.iadr 1) [.t 45, .t 46]) <|
 .alt (.la 43 3 2) ( .al (.l 48 47) c_spec_LaidOk_L0_p1) <|
 .al (.l 48 47) ( .al (.la 43 3 2) c_spec_LaidOk_L0_p1))) <| .seq (.draw ( .take (.m 50 6) <|
 .take (.o 51 (.bin .lss 0) [.t 50, .k 0]) <| .take (.m 52 51) <| .take (.fg 53 2 2 52 false) <| .take (.mg 55 6 52 false) <|
 .al (.lg 54 53 52 false) ( .take (.g 56 (.iadr 1) [.t 54, .t 55] 52 false) <| .al (.lg 57 56 52 false) ( .take (.g 58 (.un .not) [.t 57] 52 false) <|
 .take (.o 59 .pick [.t 52, .kb true, .t 58]) <| .take (.m 60 59) <| .take (.mg 61 1 60 false) <| .take (.mg 62 6 60 false) <| .take (.g 63 (.iadr 1) [.t 61,
 .t 62] 60 false) <| .take (.mg 65 1 60 false) <| .take (.mg 66 5 60 false) <| .take (.g 67 (.iadr 1) [.t 65, .t 66] 60 false) <|
 .alt (.lg 64 63 60 false) ( .al (.lg 68 67 60 false) c_spec_LaidOk_L0_p2) <|
 .al (.lg 68 67 60 false) ( .alt (.lg 64 63 60 false) c_spec_LaidOk_L0_p2 <|
 .al (.g 69 (.call 131 []) [.t 68] 60 false) ( .al (.lg 64 63 60 false) c_spec_LaidOk_L0_p0)))))) <| .cond (.t 71) ( .seq (.reg [.o 4 .mv [.kb false]]) <| .ret) ( .skip))) <| .reg [.m 22 5, .o 23 (.bin .add 0) [.t 22, .k 1],
 .m 5 23]

def c_spec_LaidOk : ACode := .seq (.reg [.o 2 .box [.t 0], .o 4 .mv [.kb false]]) <| .seq (.seq (.reg [.la 7 3 2, .o 8 (.call 61 []) [.t 7],
 .o 9 (.un .not) [.t 8], .m 10 9, .mg 11 1 10 false, .g 12 (.len false) [.t 11] 10 false, .fg 13 2 2 10 false, .lg 14 13 10 false,
 .g 15 (.len false) [.t 14] 10 false, .g 16 (.bin .neq 0) [.t 12, .t 15] 10 false, .o 17 .pick [.t 10, .kb true, .t 16]]) <|
 .cond (.t 17) ( .seq (.reg [.o 4 .mv [.kb false]]) <| .ret) ( .skip)) <| .seq (.seq (.reg [.o 5 .mv [.k 0]]) <| .block 0 ( .loop [(1, 1)] [1, 2,
 5] c_spec_LaidOk_L0)) <| .seq (.reg [.o 4 .mv [.kb true]]) <| .ret

theorem k_spec_LaidOk : cFn Tryz.prog n_spec_LaidOk 72 [.t 4] c_spec_LaidOk := ⟨Tryz.f128, _, Tryz.func128, rfl, by kernel_rfl, by kernel_rfl, by kernel_rfl, by kernel_rfl⟩

-- 2 parameters, results [.t 4], 21 slots, modes [false, false]
@[simp] abbrev n_spec_PairOf : Nat := 170

def c_spec_PairOf : ACode := .seq (.reg [.o 4 .mv [.k 0]]) <| .seq (.seq (.reg [.m 5 0, .o 6 (.call 62 []) [.t 5, .k 0, .k 6], .o 7 (.un .not) [.t 6], .m 8 7,
 .mg 9 1 8 false, .g 10 (.call 62 []) [.t 9, .k 0, .k 6] 8 false, .g 11 (.un .not) [.t 10] 8 false, .o 12 .pick [.t 8, .kb true, .t 11]]) <|
 .cond (.t 12) ( .seq (.reg [.o 4 .mv [.k (-1)]]) <| .ret) ( .skip)) <| .seq (.reg [.m 13 0, .m 14 1, .o 15 (.mnx true) [.t 13, .t 14],
 .o 16 (.bin .mul 0) [.k 7, .t 15], .m 17 0, .m 18 1, .o 19 (.mnx false) [.t 17, .t 18], .o 20 (.bin .add 0) [.t 16, .t 19], .m 4 20]) <| .ret

theorem k_spec_PairOf : cFn Tryz.prog n_spec_PairOf 21 [.t 4] c_spec_PairOf := ⟨Tryz.f170, _, Tryz.func170, rfl, by kernel_rfl, by kernel_rfl, by kernel_rfl, by kernel_rfl⟩

-- 3 parameters, results [.t 6], 57 slots, modes [false, false, false]
@[simp] abbrev n_spec_PairsOf : Nat := 137
abbrev c_spec_PairsOf_L0_p0 : Plan := .al (.o 53 (.call 170 []) [.t 42, .t 52]) ( .al (.o 54 (.bsl 1) [.t 53]) ( .al (.o 55 (.app 1 8 true) [.t 38, .t 54]) ( .take (.m 7 55) <| .done)))
abbrev c_spec_PairsOf_L0_p1 : Plan := .al (.o 50 (.call 132 []) [.t 44, .t 45, .t 49]) ( .take (.o 51 (.iadr 1) [.t 43, .t 50]) <| .al (.l 52 51) c_spec_PairsOf_L0_p0)
abbrev c_spec_PairsOf_L0_p2 : Plan := .alt (.l 42 41) c_spec_PairsOf_L0_p1 <| .al (.o 50 (.call 132 []) [.t 44, .t 45, .t 49]) ( .take (.o 51 (.iadr 1) [.t 43, .t 50]) <| .alt (.l 42 41) ( .al (.l 52 51) c_spec_PairsOf_L0_p0) <| .al (.l 52 51) ( .al (.l 42 41) c_spec_PairsOf_L0_p0))
def c_spec_PairsOf_L0 : ACode := .seq (.seq (.reg [.m 10 8, .m 11 2, .n 12 11, .o 13 (.bin .lss 0) [.t 10, .t 12], .m 14 13,
 .g 15 (.load true 3) [.t 3] 14 true, .mg 16 1 14 true, .g 17 (.call 15 []) [.t 15, .t 16] 14 true, .o 18 .pick [.t 14, .t 17, .kb false], .m 19 18,
 .g 20 (.load true 3) [.t 3] 19 true, .mg 21 2 19 true, .g 22 (.call 128 []) [.t 20, .t 21] 19 true, .o 23 .pick [.t 19, .t 22, .kb false]]) <|
 .cond (.t 23) ( .skip) ( .exit 0)) <| .seq (.block 1 ( .seq (.reg [.m 26 2, .m 27 8, .o 28 (.iadr 1) [.t 26, .t 27], .l 29 28, .o 30 (.bin .eql 0) [.t 29,
 .k 1], .m 31 30, .mg 32 2 31 false, .mg 33 8 31 false, .g 34 (.iadr 1) [.t 32, .t 33] 31 false, .lg 35 34 31 false, .g 36 (.bin .eql 0) [.t 35, .k 2] 31 false,
 .o 37 .pick [.t 31, .kb true, .t 36]]) <| .cond (.t 37) ( .draw ( .take (.m 38 7) <| .take (.m 39 1) <| .take (.m 40 8) <| .take (.o 41 (.iadr 1) [.t 39,
 .t 40]) <| .take (.m 43 1) <| .take (.m 45 8) <| .take (.m 46 2) <| .take (.m 47 8) <| .take (.o 48 (.iadr 1) [.t 46, .t 47]) <|
 .alt (.l 42 41) ( .alt (.la 44 3 3) ( .al (.l 49 48) c_spec_PairsOf_L0_p1) <| .al (.l 49 48) ( .al (.la 44 3 3) c_spec_PairsOf_L0_p1)) <| .alt (.la 44 3 3) ( .alt (.l 42 41) ( .al (.l 49 48) c_spec_PairsOf_L0_p1) <| .al (.l 49 48) c_spec_PairsOf_L0_p2) <| .al (.l 49 48) ( .alt (.l 42 41) ( .al (.la 44 3 3) c_spec_PairsOf_L0_p1) <|
 .al (.la 44 3 3) c_spec_PairsOf_L0_p2))) ( .skip))) <| .reg [.m 24 8,
 .o 25 (.bin .add 0) [.t 24, .k 1], .m 8 25]

def c_spec_PairsOf : ACode := .seq (.reg [.o 3 .box [.t 0], .o 6 .mv [.c (.os 1 [])]]) <| .seq (.reg [.o 9 (.bsl 1) [], .m 7 9]) <|
 .seq (.seq (.reg [.o 8 .mv [.k 0]]) <| .block 0 ( .loop [(1, 1), (2, 1), (7, 1)] [1, 2, 3, 7, 8] c_spec_PairsOf_L0)) <| .seq (.reg [.m 56 7, .m 6 56]) <| .ret

theorem k_spec_PairsOf : cFn Tryz.prog n_spec_PairsOf 57 [.t 6] c_spec_PairsOf := ⟨Tryz.f137, _, Tryz.func137, rfl, by kernel_rfl, by kernel_rfl, by kernel_rfl, by kernel_rfl⟩

-- 3 parameters, results [.t 6], 15 slots, modes [false, false, false]
@[simp] abbrev n_impl_in : Nat := 121

def c_impl_in : ACode := .seq (.reg [.o 6 .mv [.kb false]]) <| .seq (.reg [.m 7 0, .m 8 1, .o 9 (.bin .geq 0) [.t 7, .t 8], .m 10 9, .mg 11 0 10 true,
 .mg 12 2 10 true, .g 13 (.bin .leq 0) [.t 11, .t 12] 10 true, .o 14 .pick [.t 10, .t 13, .kb false], .m 6 14]) <| .ret

theorem k_impl_in : cFn Tryz.prog n_impl_in 15 [.t 6] c_impl_in := ⟨Tryz.f121, _, Tryz.func121, rfl, by kernel_rfl, by kernel_rfl, by kernel_rfl, by kernel_rfl⟩

-- 1 parameters, results [.t 2], 17 slots, modes [false]
@[simp] abbrev n_impl_many : Nat := 70
def c_impl_many_L0 : ACode := .seq (.reg [.o 9 (.bin .lss 0) [.t 8, .t 7]]) <| .seq (.cond (.t 9) ( .skip) ( .exit 0)) <|
 .seq (.block 1 ( .seq (.reg [.o 10 (.iadr 1) [.t 6, .t 8], .l 11 10, .m 5 11]) <| .seq (.reg [.m 12 5]) <| .cond (.t 12) ( .reg [.m 13 3,
 .o 14 (.bin .add 0) [.t 13, .k 1], .m 3 14]) ( .skip))) <| .reg [.o 15 (.bin .add 0) [.t 8, .k 1], .m 8 15]

def c_impl_many : ACode := .seq (.reg [.o 2 .mv [.k 0]]) <| .seq (.reg [.o 3 .mv [.k 0]]) <| .seq (.seq (.reg [.m 6 0, .n 7 6, .o 8 .mv [.k 0]]) <|
 .block 0 ( .loop [(6, 1)] [3, 6, 7, 8] c_impl_many_L0)) <| .seq (.reg [.m 16 3, .m 2 16]) <| .ret

theorem k_impl_many : cFn Tryz.prog n_impl_many 17 [.t 2] c_impl_many := ⟨Tryz.f70, _, Tryz.func70, rfl, by kernel_rfl, by kernel_rfl, by kernel_rfl, by kernel_rfl⟩

-- 1 parameters, results [.t 2], 28 slots, modes [false]
@[simp] abbrev n_impl_RegionValid : Nat := 69

def c_impl_RegionValid : ACode := .seq (.reg [.o 1 .box [.t 0], .o 2 .mv [.kb false]]) <| .seq (.reg [.f 3 0 1, .l 4 3, .o 5 (.call 121 []) [.t 4, .k 1, .k 6],
 .m 6 5, .fg 7 1 1 6 true, .lg 8 7 6 true, .g 9 (.call 121 []) [.t 8, .k 1, .k 6] 6 true, .o 10 .pick [.t 6, .t 9, .kb false], .m 11 10, .fg 12 2 1 11 true,
 .lg 13 12 11 true, .g 14 (.len false) [.t 13] 11 true, .fg 15 0 1 11 true, .lg 16 15 11 true, .fg 17 1 1 11 true, .lg 18 17 11 true, .g 19 (.bin .mul 0) [.t 16,
 .t 18] 11 true, .g 20 (.bin .eql 0) [.t 14, .t 19] 11 true, .o 21 .pick [.t 11, .t 20, .kb false], .m 22 21, .fg 23 2 1 22 true, .lg 24 23 22 true,
 .g 25 (.call 70 []) [.t 24] 22 true, .g 26 (.bin .leq 0) [.t 25, .k 24] 22 true, .o 27 .pick [.t 22, .t 26, .kb false], .m 2 27]) <| .ret

theorem k_impl_RegionValid : cFn Tryz.prog n_impl_RegionValid 28 [.t 2] c_impl_RegionValid := ⟨Tryz.f69, _, Tryz.func69, rfl, by kernel_rfl, by kernel_rfl, by kernel_rfl, by kernel_rfl⟩

-- 2 parameters, results [.t 4], 43 slots, modes [false, false]
@[simp] abbrev n_impl_puzzle : Nat := 115
def c_impl_puzzle_L0 : ACode := .seq (.reg [.o 16 (.bin .lss 0) [.t 15, .t 14]]) <| .seq (.cond (.t 16) ( .skip) ( .exit 0)) <|
 .seq (.block 1 ( .seq (.reg [.m 17 15, .o 18 (.iadr 1) [.t 13, .t 15], .l 19 18, .m 5 17, .m 6 19]) <| .seq (.reg [.f 20 2 2, .l 21 20, .m 22 5,
 .o 23 (.iadr 1) [.t 21, .t 22], .l 24 23, .m 25 24, .mg 26 6 25 true, .g 27 (.call 121 []) [.t 26, .k 0, .k 6] 25 true, .g 28 (.un .not) [.t 27] 25 true,
 .o 29 .pick [.t 25, .t 28, .kb false], .m 30 29, .fg 31 2 2 30 false, .lg 32 31 30 false, .mg 33 5 30 false, .g 34 (.iadr 1) [.t 32, .t 33] 30 false,
 .lg 35 34 30 false, .g 36 (.un .not) [.t 35] 30 false, .mg 37 36 30 false, .mg 38 6 37 true, .g 39 (.bin .neq 0) [.t 38, .k (-1)] 37 true, .g 40 .pick [.t 37,
 .t 39, .kb false] 30 false, .o 41 .pick [.t 30, .kb true, .t 40]]) <| .cond (.t 41) ( .seq (.reg [.o 4 .mv [.kb false]]) <| .ret) ( .skip))) <|
 .reg [.o 42 (.bin .add 0) [.t 15, .k 1], .m 15 42]

def c_impl_puzzle : ACode := .seq (.reg [.o 2 .box [.t 0], .o 4 .mv [.kb false]]) <| .seq (.seq (.reg [.m 7 1, .n 8 7, .f 9 2 2, .l 10 9, .n 11 10,
 .o 12 (.bin .neq 0) [.t 8, .t 11]]) <| .cond (.t 12) ( .seq (.reg [.o 4 .mv [.kb false]]) <| .ret) ( .skip)) <| .seq (.seq (.reg [.m 13 1, .n 14 13,
 .o 15 .mv [.k 0]]) <| .block 0 ( .loop [(13, 1)] [2, 13, 14, 15] c_impl_puzzle_L0)) <| .seq (.reg [.o 4 .mv [.kb true]]) <| .ret

theorem k_impl_puzzle : cFn Tryz.prog n_impl_puzzle 43 [.t 4] c_impl_puzzle := ⟨Tryz.f115, _, Tryz.func115, rfl, by kernel_rfl, by kernel_rfl, by kernel_rfl, by kernel_rfl⟩

-- 2 parameters, results [.t 4], 12 slots, modes [false, false]
@[simp] abbrev n_impl_PuzzleValid : Nat := 56

def c_impl_PuzzleValid : ACode := .seq (.reg [.o 2 .box [.t 0], .o 4 .mv [.kb false]]) <| .seq (.reg [.la 5 3 2, .o 6 (.call 69 []) [.t 5], .m 7 6,
 .g 8 (.load true 3) [.t 2] 7 true, .mg 9 1 7 true, .g 10 (.call 115 []) [.t 8, .t 9] 7 true, .o 11 .pick [.t 7, .t 10, .kb false], .m 4 11]) <| .ret

theorem k_impl_PuzzleValid : cFn Tryz.prog n_impl_PuzzleValid 12 [.t 4] c_impl_PuzzleValid := ⟨Tryz.f56, _, Tryz.func56, rfl, by kernel_rfl, by kernel_rfl, by kernel_rfl, by kernel_rfl⟩

-- 2 parameters, results [.t 4, .t 5], 14 slots, modes [false, false]
@[simp] abbrev n_impl_Region_xy : Nat := 174

def c_impl_Region_xy : ACode := .seq (.reg [.o 2 .box [.t 0], .o 4 .mv [.k 0], .o 5 .mv [.k 0]]) <| .seq (.draw ( .take (.m 6 1) <| .take (.f 7 0 2) <|
 .take (.m 10 1) <| .take (.f 11 0 2) <| .alt (.l 8 7) ( .take (.o 9 (.bin .rem 0) [.t 6, .t 8]) <| .take (.m 4 9) <|
 .al (.l 12 11) ( .take (.o 13 (.bin .quo 0) [.t 10, .t 12]) <| .take (.m 5 13) <| .done)) <| .al (.l 12 11) ( .take (.o 13 (.bin .quo 0) [.t 10, .t 12]) <|
 .al (.l 8 7) ( .take (.o 9 (.bin .rem 0) [.t 6, .t 8]) <| .take (.m 4 9) <| .take (.m 5 13) <| .done)))) <| .ret

theorem k_impl_Region_xy : cFn Tryz.prog n_impl_Region_xy 14 [.t 4, .t 5] c_impl_Region_xy := ⟨Tryz.f174, _, Tryz.func174, rfl, by kernel_rfl, by kernel_rfl, by kernel_rfl, by kernel_rfl⟩

-- 3 parameters, results [.t 6], 52 slots, modes [false, false, false]
@[simp] abbrev n_impl_Region_step : Nat := 147

def c_impl_Region_step : ACode := .seq (.reg [.o 3 .box [.t 0], .o 6 .mv [.k 0]]) <| .seq (.reg [.la 10 3 3, .m 11 1, .o 12 (.call 174 []) [.t 10, .t 11],
 .m 9 12, .e 13 0 9, .e 14 1 9, .m 7 13, .m 8 14]) <| .seq (.seq (.reg [.m 15 2]) <| .block 0 ( .seq (.reg [.o 17 (.bin .eql 0) [.t 15, .k 1], .m 16 17]) <|
 .cond (.t 16) ( .reg [.m 18 7, .o 19 (.bin .add 0) [.t 18, .k 1], .m 7 19]) ( .seq (.reg [.o 21 (.bin .eql 0) [.t 15, .k 2], .m 20 21]) <|
 .cond (.t 20) ( .reg [.m 22 8, .o 23 (.bin .add 0) [.t 22, .k 1], .m 8 23]) ( .seq (.reg [.o 25 (.bin .eql 0) [.t 15, .k 3], .m 24 25]) <|
 .cond (.t 24) ( .reg [.m 26 7, .o 27 (.bin .sub 0) [.t 26, .k 1], .m 7 27]) ( .seq (.reg [.o 29 (.bin .eql 0) [.t 15, .k 4], .m 28 29]) <|
 .cond (.t 28) ( .reg [.m 30 8, .o 31 (.bin .sub 0) [.t 30, .k 1], .m 8 31]) ( .seq (.reg [.o 6 .mv [.k (-1)]]) <| .ret)))))) <| .seq (.seq (.reg [.m 32 7,
 .f 33 0 3, .l 34 33, .o 35 (.bin .sub 0) [.t 34, .k 1], .o 36 (.call 121 []) [.t 32, .k 0, .t 35], .o 37 (.un .not) [.t 36], .m 38 37, .mg 39 8 38 false,
 .fg 40 1 3 38 false, .lg 41 40 38 false, .g 42 (.bin .sub 0) [.t 41, .k 1] 38 false, .g 43 (.call 121 []) [.t 39, .k 0, .t 42] 38 false,
 .g 44 (.un .not) [.t 43] 38 false, .o 45 .pick [.t 38, .kb true, .t 44]]) <| .cond (.t 45) ( .seq (.reg [.o 6 .mv [.k (-1)]]) <| .ret) ( .skip)) <|
 .seq (.reg [.m 46 8, .f 47 0 3, .l 48 47, .o 49 (.bin .mul 0) [.t 46, .t 48], .m 50 7, .o 51 (.bin .add 0) [.t 49, .t 50], .m 6 51]) <| .ret

theorem k_impl_Region_step : cFn Tryz.prog n_impl_Region_step 52 [.t 6] c_impl_Region_step := ⟨Tryz.f147, _, Tryz.func147, rfl, by kernel_rfl, by kernel_rfl, by kernel_rfl, by kernel_rfl⟩

-- 1 parameters, results [.t 2], 7 slots, modes [false]
@[simp] abbrev n_impl_back : Nat := 148

def c_impl_back : ACode := .seq (.reg [.o 2 .mv [.k 0]]) <| .seq (.reg [.m 3 0, .o 4 (.bin .add 0) [.t 3, .k 1], .o 5 (.bin .rem 0) [.t 4, .k 4],
 .o 6 (.bin .add 0) [.t 5, .k 1], .m 2 6]) <| .ret

theorem k_impl_back : cFn Tryz.prog n_impl_back 7 [.t 2] c_impl_back := ⟨Tryz.f148, _, Tryz.func148, rfl, by kernel_rfl, by kernel_rfl, by kernel_rfl, by kernel_rfl⟩

-- 2 parameters, results [.t 4], 55 slots, modes [false, false]
@[simp] abbrev n_impl_Region_lays : Nat := 106
abbrev c_impl_Region_lays_L0_p0 : Plan := .take (.g 52 (.bin .neq 0) [.t 49, .t 51] 45 false) <| .take (.o 53 .pick [.t 45, .kb true, .t 52]) <| .done
def c_impl_Region_lays_L0 : ACode := .seq (.reg [.o 17 (.bin .lss 0) [.t 16, .t 15]]) <| .seq (.cond (.t 17) ( .skip) ( .exit 0)) <|
 .seq (.block 1 ( .seq (.reg [.m 18 16, .o 19 (.iadr 1) [.t 14, .t 16], .l 20 19, .m 5 18, .m 6 20]) <| .seq (.seq (.reg [.m 21 6, .o 22 (.bin .eql 0) [.t 21,
 .k 0]]) <| .cond (.t 22) ( .exit 1) ( .skip)) <| .seq (.reg [.la 23 3 2, .m 24 5, .m 25 6, .o 26 (.call 147 []) [.t 23, .t 24, .t 25], .m 7 26]) <|
 .seq (.draw ( .take (.m 27 7) <| .take (.o 28 (.bin .lss 0) [.t 27, .k 0]) <| .take (.m 29 28) <| .take (.fg 30 2 2 29 false) <| .take (.mg 32 5 29 false) <|
 .al (.lg 31 30 29 false) ( .take (.g 33 (.iadr 1) [.t 31, .t 32] 29 false) <| .al (.lg 34 33 29 false) ( .take (.g 35 (.un .not) [.t 34] 29 false) <|
 .take (.o 36 .pick [.t 29, .kb true, .t 35]) <| .take (.m 37 36) <| .take (.fg 38 2 2 37 false) <| .take (.mg 40 7 37 false) <|
 .al (.lg 39 38 37 false) ( .take (.g 41 (.iadr 1) [.t 39, .t 40] 37 false) <| .al (.lg 42 41 37 false) ( .take (.g 43 (.un .not) [.t 42] 37 false) <|
 .take (.o 44 .pick [.t 37, .kb true, .t 43]) <| .take (.m 45 44) <| .take (.mg 46 1 45 false) <| .take (.mg 47 7 45 false) <| .take (.g 48 (.iadr 1) [.t 46,
 .t 47] 45 false) <| .take (.mg 50 6 45 false) <| .alt (.lg 49 48 45 false) ( .al (.g 51 (.call 148 []) [.t 50] 45 false) c_impl_Region_lays_L0_p0) <|
 .al (.g 51 (.call 148 []) [.t 50] 45 false) ( .al (.lg 49 48 45 false) c_impl_Region_lays_L0_p0))))))) <| .cond (.t 53) ( .seq (.reg [.o 4 .mv [.kb false]]) <| .ret) ( .skip))) <| .reg [.o 54 (.bin .add 0) [.t 16, .k 1],
 .m 16 54]

def c_impl_Region_lays : ACode := .seq (.reg [.o 2 .box [.t 0], .o 4 .mv [.kb false]]) <| .seq (.seq (.reg [.m 8 1, .n 9 8, .f 10 2 2, .l 11 10, .n 12 11,
 .o 13 (.bin .neq 0) [.t 9, .t 12]]) <| .cond (.t 13) ( .seq (.reg [.o 4 .mv [.kb false]]) <| .ret) ( .skip)) <| .seq (.seq (.reg [.m 14 1, .n 15 14,
 .o 16 .mv [.k 0]]) <| .block 0 ( .loop [(1, 1), (14, 1)] [1, 2, 14, 15, 16] c_impl_Region_lays_L0)) <| .seq (.reg [.o 4 .mv [.kb true]]) <| .ret

theorem k_impl_Region_lays : cFn Tryz.prog n_impl_Region_lays 55 [.t 4] c_impl_Region_lays := ⟨Tryz.f106, _, Tryz.func106, rfl, by kernel_rfl, by kernel_rfl, by kernel_rfl, by kernel_rfl⟩

-- 2 parameters, results [.t 4], 13 slots, modes [false, false]
@[simp] abbrev n_impl_pair : Nat := 175

def c_impl_pair : ACode := .seq (.reg [.o 4 .mv [.k 0]]) <| .seq (.reg [.m 5 0, .m 6 1, .o 7 (.mnx true) [.t 5, .t 6], .o 8 (.bin .mul 0) [.k 7, .t 7], .m 9 0,
 .m 10 1, .o 11 (.mnx false) [.t 9, .t 10], .o 12 (.bin .add 0) [.t 8, .t 11], .m 4 12]) <| .ret

theorem k_impl_pair : cFn Tryz.prog n_impl_pair 13 [.t 4] c_impl_pair := ⟨Tryz.f175, _, Tryz.func175, rfl, by kernel_rfl, by kernel_rfl, by kernel_rfl, by kernel_rfl⟩

-- 1 parameters, results [.t 2], 9 slots, modes [true]
@[simp] abbrev n_slices_Clip_int_int : Nat := 118

def c_slices_Clip_int_int : ACode := .seq (.reg [.o 2 .mv [.c (.os 1 [])]]) <| .seq (.reg [.m 3 0, .m 4 0, .n 5 4, .m 6 0, .n 7 6,
 .o 8 (.slice 1 false false true true) [.t 3, .t 5, .t 7], .m 2 8]) <| .ret

theorem k_slices_Clip_int_int : cFn Tryz.prog n_slices_Clip_int_int 9 [.t 2] c_slices_Clip_int_int := ⟨Tryz.f118, _, Tryz.func118, rfl, by kernel_rfl, by kernel_rfl, by kernel_rfl, by kernel_rfl⟩

-- 3 parameters, results [.t 6], 41 slots, modes [false, false, false]
@[simp] abbrev n_impl_Region_pairs : Nat := 149
abbrev c_impl_Region_pairs_L0_p0 : Plan := .al (.o 35 (.call 175 []) [.t 27, .t 34]) ( .al (.o 36 (.bsl 1) [.t 35]) ( .al (.o 37 (.app 1 8 true) [.t 23, .t 36]) ( .take (.m 7 37) <| .done)))
abbrev c_impl_Region_pairs_L0_p1 : Plan := .al (.o 32 (.call 147 []) [.t 29, .t 30, .t 31]) ( .take (.o 33 (.iadr 1) [.t 28, .t 32]) <| .al (.l 34 33) c_impl_Region_pairs_L0_p0)
def c_impl_Region_pairs_L0 : ACode := .seq (.reg [.o 13 (.bin .lss 0) [.t 12, .t 11]]) <| .seq (.cond (.t 13) ( .skip) ( .exit 0)) <|
 .seq (.block 1 ( .seq (.reg [.m 14 12, .o 15 (.iadr 1) [.t 10, .t 12], .l 16 15, .m 8 14, .m 9 16]) <| .seq (.reg [.m 17 9, .o 18 (.bin .eql 0) [.t 17, .k 1],
 .m 19 18, .mg 20 9 19 false, .g 21 (.bin .eql 0) [.t 20, .k 2] 19 false, .o 22 .pick [.t 19, .kb true, .t 21]]) <| .cond (.t 22) ( .draw ( .take (.m 23 7) <|
 .take (.m 24 1) <| .take (.m 25 8) <| .take (.o 26 (.iadr 1) [.t 24, .t 25]) <| .take (.m 28 1) <| .take (.m 30 8) <| .take (.m 31 9) <|
 .alt (.l 27 26) ( .al (.la 29 3 3) c_impl_Region_pairs_L0_p1) <| .al (.la 29 3 3) ( .alt (.l 27 26) c_impl_Region_pairs_L0_p1 <| .al (.o 32 (.call 147 []) [.t 29, .t 30, .t 31]) ( .take (.o 33 (.iadr 1) [.t 28, .t 32]) <|
 .alt (.l 27 26) ( .al (.l 34 33) c_impl_Region_pairs_L0_p0) <| .al (.l 34 33) ( .al (.l 27 26) c_impl_Region_pairs_L0_p0))))) ( .skip))) <|
 .reg [.o 38 (.bin .add 0) [.t 12, .k 1], .m 12 38]

def c_impl_Region_pairs : ACode := .seq (.reg [.o 3 .box [.t 0], .o 6 .mv [.c (.os 1 [])]]) <| .seq (.reg [.o 7 .mv [.c (.os 1 [])]]) <|
 .seq (.seq (.reg [.m 10 2, .n 11 10, .o 12 .mv [.k 0]]) <| .block 0 ( .loop [(1, 1), (7, 1), (10, 1)] [1, 3, 7, 10, 11, 12] c_impl_Region_pairs_L0)) <|
 .seq (.reg [.m 39 7, .o 40 (.call 118 []) [.t 39], .m 6 40]) <| .ret

theorem k_impl_Region_pairs : cFn Tryz.prog n_impl_Region_pairs 41 [.t 6] c_impl_Region_pairs := ⟨Tryz.f149, _, Tryz.func149, rfl, by kernel_rfl, by kernel_rfl, by kernel_rfl, by kernel_rfl⟩

end Go.Proofs.Dev

namespace Go.Proofs.Dev
set_option linter.unusedSimpArgs false
set_option maxRecDepth 100000

@[simp] def md0 (f : Nat) : List Bool := if f = 92 ∨ f = 93 ∨ f = 140 ∨ f = 31 ∨ f = 94 then [true, false] else if f = 118 ∨ f = 116 ∨ f = 145 ∨ f = 150 ∨ f = 151 then [true] else []

theorem s_laws_szBoolS (bs : List Bool) (left : Int) (h0 : 0 ≤ left) (h1 : left < 2 ^ 60) (hb : bs.length ≤ 9223372036854775807) :
    SoundAt Tryz.prog n_laws_szBoolS [.sl 1 1 (bools bs), .v (.int .i64 left)] (.v (.int .i64 (if left < bs.length then -1 else left - bs.length))) [.bot, .bot] := by
  refine fn_ok (md := md0) (ms := [false, false]) k_laws_szBoolS (by simp) ?_
  simp [c_laws_szBoolS]
  omega

theorem s_laws_szRegion (W T : Int) (bs : List Bool) (left : Int) (h0 : 0 ≤ left) (h1 : left < 2 ^ 60) (hb : bs.length ≤ 9223372036854775807) :
    SoundAt Tryz.prog n_laws_szRegion [.agg [.v (.int .i64 W), .v (.int .i64 T), .sl 1 1 (bools bs)], .v (.int .i64 left)] (.v (.int .i64 (if left < bs.length then -1 else left - bs.length))) [.bot, .bot] := by
  refine fn_ok (md := md0) (ms := [false, false]) k_laws_szRegion (by simp) ?_
  simp [c_laws_szRegion]
  refine call_on (s_laws_szBoolS bs left h0 h1 hb) ?_
  simp
  split <;> omega

/-- A copy, half done. -/
theorem set_half {α : Type} (xs : List α) (z d : α) (i : Nat) (hi : i < xs.length) : (xs.take i ++ List.replicate (xs.length - i) z).set i (xs.getD i d) = xs.take (i + 1) ++ List.replicate (xs.length - (i + 1)) z := by
  have hd : xs.getD i d = xs[i] := by simp [hi]
  have hl : (List.take i xs).length = i := by simp; omega
  rw [List.set_append_right _ _ (by omega), List.take_succ_eq_append_getElem hi, hd, hl, Nat.sub_self, show xs.length - i = (xs.length - (i + 1)) + 1 by omega, List.replicate_succ, List.set_cons_zero, List.append_assoc]
  rfl

theorem s_laws_toBoolS (bs : List Bool) (hb : bs.length < 2 ^ 40) :
    SoundAt Tryz.prog n_laws_toBoolS [.sl 1 1 (bools bs)] (.os 1 (bools bs)) [.bot] := by
  refine fn_ok (md := md0) (ms := [false]) k_laws_toBoolS (by simp) ?_
  simp [c_laws_toBoolS]
  refine ⟨by omega, ?_⟩
  refine loop_by (fun m E H => ∃ i : Nat, m = bs.length - i ∧ i ≤ bs.length ∧ H = [some (.arr 1 (bools (bs.take i ++ List.replicate (bs.length - i) false)))] ∧ E = [(0, .sl 1 1 (bools bs)), (3, .ls 1 0 0 bs.length), (4, .v (.int .i64 i))]) bs.length ⟨0, by simp [bools_rep]⟩ ?_
  rintro J hJ m E H ⟨i, rfl, hi, rfl, rfl⟩
  simp [c_laws_toBoolS_L0]
  refine ⟨fun h => ?_, fun h => ?_⟩
  · simp [h]
    refine ⟨by omega, by omega, _, ?_, hJ _ _ _ ⟨i + 1, rfl, h, ?_, rfl⟩⟩
    · omega
    · rw [bools_set, atb_nat, set_half bs false false i h]
  · have : i = bs.length := by omega
    subst this
    simp

theorem s_laws_toIntS (bs : List Int) (hb : bs.length < 2 ^ 40) :
    SoundAt Tryz.prog n_laws_toIntS [.sl 1 1 (ints bs)] (.os 1 (ints bs)) [.bot] := by
  refine fn_ok (md := md0) (ms := [false]) k_laws_toIntS (by simp) ?_
  simp [c_laws_toIntS]
  refine ⟨by omega, ?_⟩
  refine loop_by (fun m E H => ∃ i : Nat, m = bs.length - i ∧ i ≤ bs.length ∧ H = [some (.arr 1 (ints (bs.take i ++ List.replicate (bs.length - i) 0)))] ∧ E = [(0, .sl 1 1 (ints bs)), (3, .ls 1 0 0 bs.length), (4, .v (.int .i64 i))]) bs.length ⟨0, by simp [ints_rep]⟩ ?_
  rintro J hJ m E H ⟨i, rfl, hi, rfl, rfl⟩
  simp [c_laws_toIntS_L0]
  refine ⟨fun h => ?_, fun h => ?_⟩
  · simp [h]
    refine ⟨by omega, by omega, _, ?_, hJ _ _ _ ⟨i + 1, rfl, h, ?_, rfl⟩⟩
    · omega
    · rw [ints_set, ati_nat, set_half bs 0 0 i h]
  · have : i = bs.length := by omega
    subst this
    simp

theorem s_laws_toRegion (W T : Int) (bs : List Bool) (hb : bs.length < 2 ^ 40) :
    SoundAt Tryz.prog n_laws_toRegion [.agg [.v (.int .i64 W), .v (.int .i64 T), .sl 1 1 (bools bs)]] (.agg [.v (.int .i64 W), .v (.int .i64 T), .os 1 (bools bs)]) [.bot] := by
  refine fn_ok (md := md0) (ms := [false]) k_laws_toRegion (by simp) ?_
  simp [c_laws_toRegion]
  refine call_on (s_laws_toBoolS bs hb) ?_
  simp

theorem s_slices_Clip_int_int (xs : List Int) : SoundAt Tryz.prog n_slices_Clip_int_int [.os 1 (ints xs)] (.os 1 (ints xs)) [.bot] := by
  refine fn_ok (md := md0) (ms := [false]) k_slices_Clip_int_int (by simp) ?_
  simp [c_slices_Clip_int_int]

theorem set_mid {α : Type} (X bs : List α) (i : Nat) (v : α) (hX : X.length = i) (hi : i < bs.length) : (X ++ bs.drop i).set i v = (X ++ [v]) ++ bs.drop (i + 1) := by
  rw [List.set_append_right _ _ (by omega), hX, Nat.sub_self, List.drop_eq_getElem_cons hi, List.set_cons_zero, List.append_assoc]
  rfl

def marksB (n : Nat) (k : Int) : List Bool := (List.range n).map fun (j : Nat) => (k + j) % 3 == 0
def marksI (n : Nat) (k : Int) : List Int := (List.range n).map fun (j : Nat) => k + j

theorem s_laws_eqBoolS (xs ys : List Bool) (ha : xs.length < 2 ^ 40) :
    SoundAt Tryz.prog n_laws_eqBoolS [.sl 1 1 (bools xs), .sl 1 1 (bools ys)] (.v (.bool (decide (xs = ys)))) [.bot, .bot] := by
  refine fn_ok (md := md0) (ms := [false, false]) k_laws_eqBoolS (by simp) ?_
  simp [c_laws_eqBoolS]
  refine ⟨fun h => ?_, fun hl => ?_⟩
  · intro e; subst e; exact h rfl
  refine loop_by (fun m E H => ∃ i : Nat, m = xs.length - i ∧ i ≤ xs.length ∧ xs.take i = ys.take i ∧ H = [] ∧ E = [(0, .sl 1 1 (bools xs)), (1, .sl 1 1 (bools ys)), (5, .v (.int .i64 i))]) xs.length ⟨0, by simp⟩ ?_
  rintro J hJ m E H ⟨i, rfl, hi, he, rfl, rfl⟩
  simp [c_laws_eqBoolS_L0]
  refine ⟨fun h => ?_, fun h => ?_⟩
  · have h2 : i < ys.length := by omega
    simp [h, h2]
    have key : (atb xs i = atb ys i) → xs.take (i + 1) = ys.take (i + 1) := by
      intro e
      rw [List.take_succ_eq_append_getElem h, List.take_succ_eq_append_getElem (by omega), he]
      simp [atb, h, show i < ys.length by omega] at e
      rw [e]
    have key2 : ¬ (atb xs i = atb ys i) → xs ≠ ys := fun e e2 => e (by rw [e2])
    refine ⟨fun e => ?_, fun e => ?_⟩
    · exact key2 (by simpa using e)
    · exact ⟨by omega, _, by omega, hJ _ _ _ ⟨i + 1, rfl, h, key (by simpa using e), rfl, rfl⟩⟩
  · have h1 : i = xs.length := by omega
    subst h1
    rw [List.take_length] at he
    rw [he]
    exact List.take_of_length_le (by omega)

theorem s_laws_eqIntS (xs ys : List Int) (ha : xs.length < 2 ^ 40) :
    SoundAt Tryz.prog n_laws_eqIntS [.sl 1 1 (ints xs), .sl 1 1 (ints ys)] (.v (.bool (decide (xs = ys)))) [.bot, .bot] := by
  refine fn_ok (md := md0) (ms := [false, false]) k_laws_eqIntS (by simp) ?_
  simp [c_laws_eqIntS]
  refine ⟨fun h => ?_, fun hl => ?_⟩
  · intro e; subst e; exact h rfl
  refine loop_by (fun m E H => ∃ i : Nat, m = xs.length - i ∧ i ≤ xs.length ∧ xs.take i = ys.take i ∧ H = [] ∧ E = [(0, .sl 1 1 (ints xs)), (1, .sl 1 1 (ints ys)), (5, .v (.int .i64 i))]) xs.length ⟨0, by simp⟩ ?_
  rintro J hJ m E H ⟨i, rfl, hi, he, rfl, rfl⟩
  simp [c_laws_eqIntS_L0]
  refine ⟨fun h => ?_, fun h => ?_⟩
  · have h2 : i < ys.length := by omega
    simp [h, h2]
    have key : (ati xs i = ati ys i) → xs.take (i + 1) = ys.take (i + 1) := by
      intro e
      rw [List.take_succ_eq_append_getElem h, List.take_succ_eq_append_getElem (by omega), he]
      simp [ati, h, show i < ys.length by omega] at e
      rw [e]
    have key2 : ¬ (ati xs i = ati ys i) → xs ≠ ys := fun e e2 => e (by rw [e2])
    refine ⟨fun e => ?_, fun e => ?_⟩
    · exact key2 (by simpa using e)
    · exact ⟨by omega, _, by omega, hJ _ _ _ ⟨i + 1, rfl, h, key (by simpa using e), rfl, rfl⟩⟩
  · have h1 : i = xs.length := by omega
    subst h1
    rw [List.take_length] at he
    rw [he]
    exact List.take_of_length_le (by omega)

theorem s_laws_markBoolS (bs : List Bool) (k : Int) (h0 : 0 ≤ k) (h1 : k < 2 ^ 40) (hb : bs.length < 2 ^ 40) :
    SoundAt Tryz.prog n_laws_markBoolS [.os 1 (bools bs), .v (.int .i64 k)] (.v (.int .i64 (k + bs.length))) [.os 1 (bools (marksB bs.length k)), .bot] := by
  refine fn_ok (md := md0) (ms := [true, false]) k_laws_markBoolS (by simp) ?_
  simp [c_laws_markBoolS]
  refine loop_by (fun m E H => ∃ i : Nat, m = bs.length - i ∧ i ≤ bs.length ∧ H = [some (.arr 1 (bools (marksB i k ++ bs.drop i)))] ∧ E = [(0, .ls 1 0 0 bs.length), (1, .v (.int .i64 (k + i))), (5, .v (.int .i64 i)), (21, .ls 1 0 0 bs.length)]) bs.length ⟨0, by simp [marksB]⟩ ?_
  rintro J hJ m E H ⟨i, rfl, hi, rfl, rfl⟩
  simp [c_laws_markBoolS_L0]
  refine ⟨fun h => ?_, fun h => ?_⟩
  · simp [h]
    have e : (bools (marksB i k ++ bs.drop i)).set i (.v (.bool ((k + i) % 3 == 0))) = bools (marksB (i + 1) k ++ bs.drop (i + 1)) := by
      rw [bools_set, set_mid _ _ _ _ (by simp [marksB]) h, marksB, marksB, List.range_succ, List.map_append]; rfl
    simp [marksB] at e ⊢
    refine ⟨by omega, by omega, by omega, by omega, _, ?_, hJ _ _ _ ⟨i + 1, rfl, h, ?_, ?_⟩⟩
    · omega
    · simp [marksB, e]
    · simp; omega
  · have : i = bs.length := by omega
    subst this
    simp [marksB]

theorem s_laws_markIntS (bs : List Int) (k : Int) (h0 : 0 ≤ k) (h1 : k < 2 ^ 40) (hb : bs.length < 2 ^ 40) :
    SoundAt Tryz.prog n_laws_markIntS [.os 1 (ints bs), .v (.int .i64 k)] (.v (.int .i64 (k + bs.length))) [.os 1 (ints (marksI bs.length k)), .bot] := by
  refine fn_ok (md := md0) (ms := [true, false]) k_laws_markIntS (by simp) ?_
  simp [c_laws_markIntS]
  refine loop_by (fun m E H => ∃ i : Nat, m = bs.length - i ∧ i ≤ bs.length ∧ H = [some (.arr 1 (ints (marksI i k ++ bs.drop i)))] ∧ E = [(0, .ls 1 0 0 bs.length), (1, .v (.int .i64 (k + i))), (5, .v (.int .i64 i)), (19, .ls 1 0 0 bs.length)]) bs.length ⟨0, by simp [marksI]⟩ ?_
  rintro J hJ m E H ⟨i, rfl, hi, rfl, rfl⟩
  simp [c_laws_markIntS_L0]
  refine ⟨fun h => ?_, fun h => ?_⟩
  · simp [h]
    have e : (ints (marksI i k ++ bs.drop i)).set i (.v (.int .i64 (k + i))) = ints (marksI (i + 1) k ++ bs.drop (i + 1)) := by
      rw [ints_set, set_mid _ _ _ _ (by simp [marksI]) h, marksI, marksI, List.range_succ, List.map_append]; rfl
    simp [marksI] at e ⊢
    refine ⟨by omega, by omega, by omega, _, ?_, hJ _ _ _ ⟨i + 1, rfl, h, ?_, ?_⟩⟩
    · omega
    · simp [marksI, e]
    · simp; omega
  · have : i = bs.length := by omega
    subst this
    simp [marksI]


@[simp] theorem marksI_length (n : Nat) (k : Int) : (marksI n k).length = n := by simp [marksI]
@[simp] theorem marksB_length (n : Nat) (k : Int) : (marksB n k).length = n := by simp [marksB]

@[simp] theorem take_marksI (n : Nat) (k : Int) : (ints (marksI n k)).take n = ints (marksI n k) := by
  have := take_ints_all (marksI n k)
  rwa [marksI_length] at this
@[simp] theorem take_marksB (n : Nat) (k : Int) : (bools (marksB n k)).take n = bools (marksB n k) := by
  have := take_bools_all (marksB n k)
  rwa [marksB_length] at this

theorem s_laws_heldIntS (n : Nat) (k : Int) (h0 : 0 ≤ k) (h1 : k < 2 ^ 40) (hb : n < 2 ^ 40) :
    SoundAt Tryz.prog n_laws_heldIntS [.sl 1 1 (ints (marksI n k)), .v (.int .i64 k)] (.v (.int .i64 (k + n))) [.bot, .bot] := by
  refine fn_ok (md := md0) (ms := [false, false]) k_laws_heldIntS (by simp) ?_
  simp [c_laws_heldIntS]
  refine loop_by (fun m E H => ∃ i : Nat, m = n - i ∧ i ≤ n ∧ H = [] ∧ E = [(0, .sl 1 1 (ints (marksI n k))), (1, .v (.int .i64 (k + i))), (5, .v (.int .i64 i))]) n ⟨0, by simp⟩ ?_
  rintro J hJ m E H ⟨i, rfl, hi, rfl, rfl⟩
  simp [c_laws_heldIntS_L0, marksI_length]
  refine ⟨fun h => ?_, fun h => ?_⟩
  · have e : ati (marksI n k) i = k + i := by simp [ati, marksI, h]
    have hl := marksI_length n k
    simp [e, h]
    refine ⟨by omega, by omega, _, by omega, hJ _ _ _ ⟨i + 1, rfl, h, rfl, ?_⟩⟩
    simp; omega
  · have : i = n := by omega
    subst this
    simp

theorem s_laws_eqRegion (W T W2 T2 : Int) (xs ys : List Bool) (ha : xs.length < 2 ^ 40) :
    SoundAt Tryz.prog n_laws_eqRegion [.agg [.v (.int .i64 W), .v (.int .i64 T), .sl 1 1 (bools xs)], .agg [.v (.int .i64 W2), .v (.int .i64 T2), .sl 1 1 (bools ys)]] (.v (.bool (decide (W = W2 ∧ T = T2 ∧ xs = ys)))) [.bot, .bot] := by
  refine fn_ok (md := md0) (ms := [false, false]) k_laws_eqRegion (by simp) ?_
  simp [c_laws_eqRegion]
  refine ⟨fun h => fun e => absurd e h, fun h1 => ⟨fun h _ e => absurd e h, fun h2 => ?_⟩⟩
  refine call_on (s_laws_eqBoolS xs ys ha) ?_
  simp [h1, h2]

theorem s_laws_markRegion (W T : Int) (bs : List Bool) (k : Int) (h0 : 0 ≤ k) (h1 : k < 2 ^ 40) (hb : bs.length < 2 ^ 40) :
    SoundAt Tryz.prog n_laws_markRegion [.agg [.v (.int .i64 W), .v (.int .i64 T), .os 1 (bools bs)], .v (.int .i64 k)] (.v (.int .i64 (k + bs.length))) [.agg [.v (.int .i64 W), .v (.int .i64 T), .os 1 (bools (marksB bs.length k))], .bot] := by
  refine fn_ok (md := md0) (ms := [true, false]) k_laws_markRegion (by simp) ?_
  simp [c_laws_markRegion]
  refine call_on (s_laws_markBoolS bs k h0 h1 hb) ?_
  simp [marksB_length]

end Go.Proofs.Dev

namespace Go.Proofs.Dev
set_option linter.unusedSimpArgs false
set_option maxRecDepth 100000

theorem s_spec_l1In (x lo hi : Int) : SoundAt Tryz.prog n_spec_l1In [.v (.int .i64 x), .v (.int .i64 lo), .v (.int .i64 hi)] (.v (.bool (decide (lo ≤ x ∧ x ≤ hi)))) [.bot, .bot, .bot] := by
  refine fn_ok (md := md0) (ms := [false, false, false]) k_spec_l1In (by simp) ?_
  simp [c_spec_l1In]
  constructor
  · intro h; simp [h]
  · intro h; omega

theorem s_spec_l1Count (bs : List Bool) (hb : bs.length < 2 ^ 40) : SoundAt Tryz.prog n_spec_l1Count [.sl 1 1 (bools bs)] (.v (.int .i64 (manyOf bs))) [.bot] := by
  refine fn_ok (md := md0) (ms := [false]) k_spec_l1Count (by simp) ?_
  simp [c_spec_l1Count]
  refine loop_by (fun m E H => ∃ i : Nat, m = bs.length - i ∧ i ≤ bs.length ∧ H = [] ∧ E = [(0, .sl 1 1 (bools bs)), (3, .v (.int .i64 (manyOf (bs.take i)))), (4, .v (.int .i64 i))]) bs.length ⟨0, by simp [manyOf]⟩ ?_
  rintro J hJ m E H ⟨i, rfl, hi, rfl, rfl⟩
  simp [c_spec_l1Count_L0]
  refine ⟨fun h => ?_, fun h => ?_⟩
  · have e := manyOf_take bs i h
    have e3 := manyOf_le (bs.take i)
    rw [List.length_take] at e3
    simp [h]
    refine ⟨fun hb => ⟨by omega, by omega, _, by omega, hJ _ _ _ ⟨i + 1, rfl, h, rfl, ?_⟩⟩, fun hb => ⟨by omega, _, by omega, hJ _ _ _ ⟨i + 1, rfl, h, rfl, ?_⟩⟩⟩ <;> simp [e, hb]
  · have : i = bs.length := by omega
    subst this
    simp

theorem s_spec_RegionValid (W T : Int) (cs : List Bool) (hb : cs.length < 2 ^ 40) : SoundAt Tryz.prog n_spec_RegionValid [.agg [.v (.int .i64 W), .v (.int .i64 T), .sl 1 1 (bools cs)]] (.v (.bool (regB W T cs))) [.bot] := by
  refine fn_ok (md := md0) (ms := [false]) k_spec_RegionValid (by simp) ?_
  simp [c_spec_RegionValid]
  refine call_on (s_spec_l1In W 1 6) ?_
  simp
  refine ⟨fun h h' => ?_, fun h => ?_⟩
  · refine call_on (s_spec_l1In T 1 6) ?_
    have hx : T ≤ 6 → W * T ≤ 36 ∧ (1 ≤ T → 1 ≤ W * T) := fun ht => ⟨(by
      by_cases h0 : 0 ≤ T
      · exact Int.mul_le_mul h' ht h0 (by omega)
      · have : W * T ≤ 0 := Int.mul_nonpos_of_nonneg_of_nonpos (by omega) (by omega)
        omega), fun h1 => Int.mul_pos (by omega) (by omega)⟩
    simp
    refine ⟨fun h1 h2 => ⟨by have := hx h2; omega, fun h3 => ?_, fun h3 => ?_⟩, fun h1 => ?_⟩
    · refine call_on (s_spec_l1Count cs hb) ?_
      simp [regB, h, h', h1, h2, h3]
      omega
    · simp [regB]; omega
    · simp [regB]; omega
  · simp [regB]; omega

theorem s_spec_l2Back (n : Int) (h : 0 ≤ n) (h2 : n < 2 ^ 60) : SoundAt Tryz.prog n_spec_l2Back [.v (.int .i64 n)] (.v (.int .i64 (backI n))) [.bot] := by
  refine fn_ok (md := md0) (ms := [false]) k_spec_l2Back (by simp) ?_
  simp [c_spec_l2Back, backI]
  omega

theorem s_spec_PairOf (a b : Int) (h1 : 0 ≤ a ∧ a ≤ 6) (h2 : 0 ≤ b ∧ b ≤ 6) : SoundAt Tryz.prog n_spec_PairOf [.v (.int .i64 a), .v (.int .i64 b)] (.v (.int .i64 (pairI a b))) [.bot, .bot] := by
  refine fn_ok (md := md0) (ms := [false, false]) k_spec_PairOf (by simp) ?_
  simp [c_spec_PairOf]
  refine call_on (s_spec_l1In a 0 6) ?_
  simp [h1]
  refine call_on (s_spec_l1In b 0 6) ?_
  simp [h2, pairI]
  rw [Int.min_def, Int.max_def]
  (repeat' split) <;> omega

theorem s_spec_l2Step (W T : Int) (cs : List Bool) (k way : Int) (hr : regB W T cs = true) (h0 : 0 ≤ k) (h1 : k < cs.length) :
    SoundAt Tryz.prog n_spec_l2Step [.agg [.v (.int .i64 W), .v (.int .i64 T), .sl 1 1 (bools cs)], .v (.int .i64 k), .v (.int .i64 way)] (.v (.int .i64 (stepI W T k way))) [.bot, .bot, .bot] := by
  refine fn_ok (md := md0) (ms := [false, false, false]) k_spec_l2Step (by simp) ?_
  obtain ⟨w1, w2, t1, t2, l1, _⟩ := regB_W hr
  have hl := regB_len hr
  have hxy := cell_xy (T := T) (k := k) w1 h0 (by omega)
  have e1 : stepI W T k way = if way = 1 ∧ k % W < W - 1 then k + 1 else if way = 2 ∧ k / W < T - 1 then k + W else if way = 3 ∧ 0 < k % W then k - 1 else if way = 4 ∧ 0 < k / W then k - W else -1 := rfl
  rw [e1]
  clear e1 hr
  generalize hA : k % W = A at *
  generalize hB : k / W = B at *
  by_cases c1 : way = 1
  · subst c1; simp [c_spec_l2Step, hA, hB]; omega
  by_cases c2 : way = 2
  · subst c2; simp [c_spec_l2Step, hA, hB]; omega
  by_cases c3 : way = 3
  · subst c3; simp [c_spec_l2Step, hA, hB]; omega
  by_cases c4 : way = 4
  · subst c4; simp [c_spec_l2Step, hA, hB]; omega
  simp [c_spec_l2Step, c1, c2, c3, c4]

end Go.Proofs.Dev

namespace Go.Proofs.Dev
set_option linter.unusedSimpArgs false
set_option maxRecDepth 100000

theorem s_spec_PuzzleValid (W T : Int) (cs : List Bool) (ds : List Int) (hb : cs.length < 2 ^ 40) (hd : ds.length < 2 ^ 40) :
    SoundAt Tryz.prog n_spec_PuzzleValid [.agg [.v (.int .i64 W), .v (.int .i64 T), .sl 1 1 (bools cs)], .sl 1 1 (ints ds)] (.v (.bool (regB W T cs && digsB cs ds))) [.bot, .bot] := by
  refine fn_ok (md := md0) (ms := [false, false]) k_spec_PuzzleValid (by simp) ?_
  simp [c_spec_PuzzleValid]
  refine call_on (s_spec_RegionValid W T cs hb) ?_
  simp
  refine ⟨fun hr => ⟨fun hl => ?_, fun hl => ?_⟩, fun hr => ?_⟩
  · intro _
    simp [digsB]; omega
  · have hl' : ds.length = cs.length := by omega
    refine loop_by (fun m E H => ∃ i : Nat, m = ds.length - i ∧ i ≤ ds.length ∧ allB i (fun k => digAt cs ds k) = true ∧ H = [some (.box [.v (.int .i64 W), .v (.int .i64 T), .sl 1 1 (bools cs)])] ∧ E = [(1, .sl 1 1 (ints ds)), (2, .lp 0 0 0 0), (5, .v (.int .i64 i))]) ds.length ⟨0, by simp [allB_zero]⟩ ?_
    rintro J hJ m E H ⟨i, rfl, hi, ha, rfl, rfl⟩
    by_cases h : i < ds.length
    · have h2 : i < cs.length := by omega
      have next : digAt cs ds i = true → again J (ds.length - i) [(1, .sl 1 1 (ints ds)), (2, .lp 0 0 0 0), (5, .v (.int .i64 (i + 1)))] [some (.box [.v (.int .i64 W), .v (.int .i64 T), .sl 1 1 (bools cs)])] :=
        fun hd => ⟨_, by omega, hJ _ _ _ ⟨i + 1, rfl, h, by rw [allB_succ, ha, hd]; rfl, rfl, rfl⟩⟩
      have stop : digAt cs ds i = false → digsB cs ds = false := fun hd => by simp only [digsB, hl', decide_true, Bool.true_and]; exact allB_false h2 hd
      cases hc : atb cs i with
      | true =>
        simp [c_spec_PuzzleValid_L0, h, h2, hc]
        refine call_on (s_spec_l1In (ati ds i) 0 6) ?_
        simp [digAt, hc] at next stop ⊢
        (repeat' first | assumption | omega | apply And.intro | intro _) <;> first | omega | exact stop (by omega) | exact next (by omega) (by omega)
      | false =>
        simp [c_spec_PuzzleValid_L0, h, h2, hc]
        simp [digAt, hc] at next stop ⊢
        exact ⟨fun hx => fun _ => stop hx, fun hx => ⟨by omega, next hx⟩⟩
    · have : i = ds.length := by omega
      subst this
      simp [c_spec_PuzzleValid_L0]
      simp [digsB, hr, hl'] at ha ⊢
      exact ha
  · simp [hr]

end Go.Proofs.Dev

namespace Go.Proofs.Dev
set_option linter.unusedSimpArgs false
set_option maxRecDepth 100000

theorem s_spec_LaidOk (W T : Int) (cs : List Bool) (ls : List Int) (hb : cs.length < 2 ^ 40) (hd : ls.length < 2 ^ 40) :
    SoundAt Tryz.prog n_spec_LaidOk [.agg [.v (.int .i64 W), .v (.int .i64 T), .sl 1 1 (bools cs)], .sl 1 1 (ints ls)] (.v (.bool (regB W T cs && laysB W T cs ls))) [.bot, .bot] := by
  refine fn_ok (md := md0) (ms := [false, false]) k_spec_LaidOk (by simp) ?_
  simp [c_spec_LaidOk]
  refine call_on (s_spec_RegionValid W T cs hb) ?_
  simp
  refine ⟨fun hr => ⟨fun hl => ?_, fun hl => ?_⟩, fun hr => ?_⟩
  · intro _
    simp [laysB]; omega
  · have hl' : ls.length = cs.length := by omega
    obtain ⟨w1, w2, t1, t2, l1, _⟩ := regB_W hr
    refine loop_by (fun m E H => ∃ i : Nat, m = ls.length - i ∧ i ≤ ls.length ∧ allB i (fun k => layAt W T cs ls k) = true ∧ H = [some (.box [.v (.int .i64 W), .v (.int .i64 T), .sl 1 1 (bools cs)])] ∧ E = [(1, .sl 1 1 (ints ls)), (2, .lp 0 0 0 0), (5, .v (.int .i64 i))]) ls.length ⟨0, by simp [allB_zero]⟩ ?_
    rintro J hJ m E H ⟨i, rfl, hi, ha, rfl, rfl⟩
    by_cases h : i < ls.length
    · have h2 : i < cs.length := by omega
      have next : layAt W T cs ls i = true → again J (ls.length - i) [(1, .sl 1 1 (ints ls)), (2, .lp 0 0 0 0), (5, .v (.int .i64 (i + 1)))] [some (.box [.v (.int .i64 W), .v (.int .i64 T), .sl 1 1 (bools cs)])] :=
        fun hd => ⟨_, by omega, hJ _ _ _ ⟨i + 1, rfl, h, by rw [allB_succ, ha, hd]; rfl, rfl, rfl⟩⟩
      have stop : layAt W T cs ls i = false → (regB W T cs && laysB W T cs ls) = false := fun hd => by rw [hr, Bool.true_and]; simp only [laysB, hl', decide_true, Bool.true_and]; exact allB_false h2 hd
      by_cases z : ati ls i = 0
      · simp [c_spec_LaidOk_L0, h, h2, z]
        exact ⟨by omega, next (by simp [layAt, z])⟩
      by_cases rg : 1 ≤ ati ls i ∧ ati ls i ≤ 4
      case neg =>
        simp [c_spec_LaidOk_L0, h, h2, z]
        refine call_on (s_spec_l1In (ati ls i) 1 4) ?_
        have hs := stop (by simp [layAt, z]; omega)
        have hx : (decide (1 ≤ ati ls i) && decide (ati ls i ≤ 4)) = false := by simp; omega
        simp [hx, hs]
      cases hc : atb cs i with
      | false =>
        simp [c_spec_LaidOk_L0, h, h2, z]
        refine call_on (s_spec_l1In (ati ls i) 1 4) ?_
        have hs := stop (by simp [layAt, z, hc])
        simp [rg, hs, hc, h2]
      | true =>
        have hst := stepI_range (T := T) (k := i) (way := ati ls i) w1 (by omega) (by omega)
        have one : SoundAt Tryz.prog n_spec_l2Step [.agg [.v (.int .i64 W), .v (.int .i64 T), .sl 1 1 (bools cs)], .v (.int .i64 i), .v (.int .i64 (ati ls i))] (.v (.int .i64 (stepI W T i (ati ls i)))) [.bot, .bot, .bot] := s_spec_l2Step W T cs i (ati ls i) hr (by omega) (by omega)
        have two := s_spec_l2Back (ati ls i) (by omega) (by omega)
        simp [layAt, z, rg, hc] at next stop
        generalize hto : stepI W T i (ati ls i) = to at *
        simp [c_spec_LaidOk_L0, h, h2, z]
        refine call_on (s_spec_l1In (ati ls i) 1 4) ?_
        simp [rg, hc, h2]
        rcases hst with hst | ⟨hst, hst2, -, -⟩
        · subst hst
          have hs := stop (by omega) hr
          (repeat' first | assumption | omega | apply And.intro | intro _) <;> first
            | assumption
            | (refine call_on one ?_; simp [hs])
        · have e1 : ¬ to < 0 := by omega
          have e2 : to < cs.length := by omega
          have e3 : to < ls.length := by omega
          cases hct : atb cs to with
          | false =>
            have hs := stop (by simp [hct]) hr
            (repeat' first | assumption | omega | apply And.intro | intro _) <;> first
              | assumption
              | (refine call_on one ?_; simp [hs, e1, e2, e3, hst, hct])
          | true =>
            simp [hst, hct] at next stop
            (repeat' first | assumption | omega | apply And.intro | intro _) <;> first
              | assumption
              | (refine call_on one ?_
                 simp [e1, e2, e3, hst, hct, h]
                 (repeat' first | assumption | omega | apply And.intro | intro _) <;> first
                  | assumption
                  | (refine call_on two ?_
                     simp [e1, e2, e3, hst, hct, h]
                     (repeat' first | assumption | omega | apply And.intro | intro _) <;> first
                      | assumption
                      | omega
                      | exact next (by assumption)
                      | exact stop (by assumption) (by assumption)))
    · have : i = ls.length := by omega
      subst this
      simp [c_spec_LaidOk_L0]
      simp [laysB, hr, hl'] at ha ⊢
      exact ha
  · simp [hr]

end Go.Proofs.Dev
