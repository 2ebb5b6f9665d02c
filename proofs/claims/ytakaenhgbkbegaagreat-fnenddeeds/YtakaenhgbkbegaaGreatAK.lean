/- Contracts of the functions of the program over slots and rows, each proved against the program itself; no condition beyond those that each theorem names. -/
import Derived.Test.YtakaenhgbkbegaaGreatRows
import Derived.ProofKit
import Derived.Test.YtakaenhgbkbegaaGreatAH
import Derived.Test.YtakaenhgbkbegaaGreatAI
import Derived.Test.YtakaenhgbkbegaaGreatProg

set_option linter.unusedSimpArgs false
set_option linter.unusedVariables false

namespace Go.Proofs.YtakaenhgbkbegaaGreat

def headCodes : List Nat := [104, 97, 114, 110, 101, 115, 115, 32, 99, 48, 100, 55, 49, 50, 48, 100, 54, 51, 52, 52, 51, 53, 101, 100, 52, 56, 49, 51, 102, 98, 100, 56, 101, 98, 100, 54, 51, 56, 56, 56, 101, 100, 97, 99, 51, 57, 57, 57, 54, 56, 102, 99, 48, 102, 50, 98, 48, 50, 98, 97, 48, 57, 48, 101, 49, 48, 100, 49, 56, 55, 54, 97, 32, 99, 117, 116, 32, 97, 116, 32, 108, 111, 111, 112, 46, 101, 120, 97, 109, 112, 108, 101, 47, 100, 111, 109, 105, 110, 111, 116, 105, 108, 105, 110, 103, 115, 47, 108, 97, 119, 115, 46, 70, 110, 66, 111, 111, 107, 78, 101, 119, 32, 108, 111, 111, 112, 46, 101, 120, 97, 109, 112, 108, 101, 47, 100, 111, 109, 105, 110, 111, 116, 105, 108, 105, 110, 103, 115, 47, 108, 97, 119, 115, 46, 70, 110, 67, 101, 108, 108, 115, 76, 101, 102, 116, 32, 108, 111, 111, 112, 46, 101, 120, 97, 109, 112, 108, 101, 47, 100, 111, 109, 105, 110, 111, 116, 105, 108, 105, 110, 103, 115, 47, 108, 97, 119, 115, 46, 70, 110, 69, 120, 97, 99, 116, 66, 111, 111, 107, 68, 111, 32, 108, 111, 111, 112, 46, 101, 120, 97, 109, 112, 108, 101, 47, 100, 111, 109, 105, 110, 111, 116, 105, 108, 105, 110, 103, 115, 47, 108, 97, 119, 115, 46, 70, 110, 66, 111, 111, 107, 83, 111, 108, 118, 101, 100, 32, 108, 111, 111, 112, 46, 101, 120, 97, 109, 112, 108, 101, 47, 100, 111, 109, 105, 110, 111, 116, 105, 108, 105, 110, 103, 115, 47, 108, 97, 119, 115, 46, 70, 110, 69, 120, 97, 99, 116, 66, 111, 111, 107, 82, 117, 110, 32, 108, 111, 111, 112, 46, 101, 120, 97, 109, 112, 108, 101, 47, 100, 111, 109, 105, 110, 111, 116, 105, 108, 105, 110, 103, 115, 47, 108, 97, 119, 115, 46, 70, 110, 66, 111, 111, 107, 68, 111, 32, 108, 111, 111, 112, 46, 101, 120, 97, 109, 112, 108, 101, 47, 100, 111, 109, 105, 110, 111, 116, 105, 108, 105, 110, 103, 115, 47, 108, 97, 119, 115, 46, 70, 110, 66, 111, 111, 107, 82, 117, 110, 32, 108, 111, 111, 112, 46, 101, 120, 97, 109, 112, 108, 101, 47, 100, 111, 109, 105, 110, 111, 116, 105, 108, 105, 110, 103, 115, 47, 108, 97, 119, 115, 46, 70, 110, 69, 110, 100, 68, 101, 101, 100, 115]
theorem head_eq : Tryz.prog.initOrder = String.ofList (headCodes.map Char.ofNat) := by kernel_rfl
theorem head_list : Tryz.prog.initOrder.toList = headCodes.map Char.ofNat := by rw [head_eq, String.toList_ofList]
def restWords : List (List Nat) := [[97, 116], [108, 111, 111, 112, 46, 101, 120, 97, 109, 112, 108, 101, 47, 100, 111, 109, 105, 110, 111, 116, 105, 108, 105, 110, 103, 115, 47, 108, 97, 119, 115, 46, 70, 110, 66, 111, 111, 107, 78, 101, 119], [108, 111, 111, 112, 46, 101, 120, 97, 109, 112, 108, 101, 47, 100, 111, 109, 105, 110, 111, 116, 105, 108, 105, 110, 103, 115, 47, 108, 97, 119, 115, 46, 70, 110, 67, 101, 108, 108, 115, 76, 101, 102, 116], [108, 111, 111, 112, 46, 101, 120, 97, 109, 112, 108, 101, 47, 100, 111, 109, 105, 110, 111, 116, 105, 108, 105, 110, 103, 115, 47, 108, 97, 119, 115, 46, 70, 110, 69, 120, 97, 99, 116, 66, 111, 111, 107, 68, 111], [108, 111, 111, 112, 46, 101, 120, 97, 109, 112, 108, 101, 47, 100, 111, 109, 105, 110, 111, 116, 105, 108, 105, 110, 103, 115, 47, 108, 97, 119, 115, 46, 70, 110, 66, 111, 111, 107, 83, 111, 108, 118, 101, 100], [108, 111, 111, 112, 46, 101, 120, 97, 109, 112, 108, 101, 47, 100, 111, 109, 105, 110, 111, 116, 105, 108, 105, 110, 103, 115, 47, 108, 97, 119, 115, 46, 70, 110, 69, 120, 97, 99, 116, 66, 111, 111, 107, 82, 117, 110], [108, 111, 111, 112, 46, 101, 120, 97, 109, 112, 108, 101, 47, 100, 111, 109, 105, 110, 111, 116, 105, 108, 105, 110, 103, 115, 47, 108, 97, 119, 115, 46, 70, 110, 66, 111, 111, 107, 68, 111], [108, 111, 111, 112, 46, 101, 120, 97, 109, 112, 108, 101, 47, 100, 111, 109, 105, 110, 111, 116, 105, 108, 105, 110, 103, 115, 47, 108, 97, 119, 115, 46, 70, 110, 66, 111, 111, 107, 82, 117, 110], [108, 111, 111, 112, 46, 101, 120, 97, 109, 112, 108, 101, 47, 100, 111, 109, 105, 110, 111, 116, 105, 108, 105, 110, 103, 115, 47, 108, 97, 119, 115, 46, 70, 110, 69, 110, 100, 68, 101, 101, 100, 115]]
theorem head_words : behindMainWord (wordsSigns Tryz.prog.initOrder.toList) = [Char.ofNat 99, Char.ofNat 117, Char.ofNat 116] :: restWords.map (·.map Char.ofNat) := by
  rw [head_list]
  kernel_rfl
theorem strip_head : stripLifts liftWords ([Char.ofNat 99, Char.ofNat 117, Char.ofNat 116] :: restWords.map (·.map Char.ofNat)) = ([], [Char.ofNat 99, Char.ofNat 117, Char.ofNat 116] :: restWords.map (·.map Char.ofNat)) := by kernel_rfl
theorem fact_laysLater : Tryz.prog.laysLater = false := by kernel_rfl
theorem fact_bearsReflect : Tryz.prog.bearsReflect = false := by kernel_rfl
theorem fact_doorFits : Tryz.prog.doorFits [] = true := by kernel_rfl
theorem fact_headLifts : Tryz.prog.headLifts = [] := by
  unfold Program.headLifts
  rw [head_words, strip_head]
  kernel_rfl
theorem gc_no : ([Char.ofNat 99, Char.ofNat 117, Char.ofNat 116] == "gc".toList) = false := by kernel_rfl
theorem spec_no : ([Char.ofNat 99, Char.ofNat 117, Char.ofNat 116] == "spec".toList) = false := by kernel_rfl
theorem cut_yes : ([Char.ofNat 99, Char.ofNat 117, Char.ofNat 116] == "cut".toList) = true := by kernel_rfl
theorem make_of {P : Program} {c : List Char} {rest : List (List Char)} (h : behindMainWord (wordsSigns P.initOrder.toList) = c :: rest) (h1 : (c == "gc".toList) = false) (h2 : (c == "spec".toList) = false) (h3 : (c == "cut".toList) = true) : P.make = some .cut := by
  unfold Program.make
  rw [h]
  simp only [h1, h2, h3, Bool.or_false, Bool.true_or, Bool.false_eq_true, if_false, if_true]
theorem mayEnter_of {P : Program} {c : List Char} {rest : List (List Char)} (h : behindMainWord (wordsSigns P.initOrder.toList) = c :: rest) (hs : stripLifts liftWords (c :: rest) = ([], c :: rest)) (h3 : (c == "cut".toList) = true)
    (hl : P.laysLater = false) (hb : P.bearsReflect = false) (hd : P.doorFits [] = true) : P.mayEnter = true := by
  unfold Program.mayEnter
  rw [h]
  have hh : (some c == some "cut".toList) = true := by
    rw [show c = "cut".toList by simpa using h3]
    exact beq_self_eq_true _
  simp only [hs, hl, hb, hd, List.head?_cons, hh, Bool.not_false, Bool.or_true, Bool.and_true, List.contains_nil]
theorem fact_mayEnter : Tryz.prog.mayEnter = true := mayEnter_of head_words strip_head cut_yes fact_laysLater fact_bearsReflect fact_doorFits
theorem fact_make : Tryz.prog.make = some .cut := make_of head_words gc_no spec_no cut_yes
theorem fact_liftsFinal : Tryz.prog.liftsFinal = false := by
  unfold Program.liftsFinal
  rw [head_words, fact_headLifts]
  kernel_rfl
end Go.Proofs.YtakaenhgbkbegaaGreat

namespace Go.Proofs.YtakaenhgbkbegaaGreat
open Go.ChangeShapes Go.WideShapes Go.ChangeAt Go.RowKit Go.Proofs.Dev

theorem own : ownKnob Tryz.prog.godebug = none := by kernel_rfl
theorem laidOut : laidOutB Tryz.prog = true := by kernel_rfl
theorem cells5 : Tryz.prog.cellsOf 5 = 1 := by kernel_rfl
theorem readable22 : Tryz.prog.readableRec 22 = true := by kernel_rfl

theorem RL.cons0 {C : Ctx} {a : AV} {bs : List AV} {u : Value} {us : List Value} (h : R C a [] u) (h' : RL C bs [] us) : RL C (a :: bs) [] (u :: us) := by
  rw [RL]; exact ⟨[], [], u, us, rfl, rfl, h, h'⟩
theorem RL.nil0 {C : Ctx} : RL C [] [] [] := by rw [RL]; exact ⟨rfl, rfl⟩

/-- What holds of bytes that may be kept holds of bytes that are read alone. -/
theorem byte_law {P : Program} {f : Nat} {bs : List Int} (h : SoundAt P f [.sl 0 1 (u8s bs)] (.v (.bool true)) [.bot]) : SoundAt P f [.sl 1 1 (u8s bs)] (.v (.bool true)) [.bot] := by
  refine SoundAt.lift (n := 1) (fun C S us hr => noOL_ok _ S us (noOL_u8s 1 bs) hr) rfl ?_
  have e : vwL 0 [AV.sl 1 1 (u8s bs)] = [AV.sl 0 1 (u8s bs)] := by simp [vwL, vw]
  rw [e]
  exact h
end Go.Proofs.YtakaenhgbkbegaaGreat

namespace Go.Proofs.Dev
set_option maxRecDepth 100000

-- 2 parameters, results [.t 4], 26 slots, modes [false, false]
@[simp] abbrev n_laws_sameDeeds : Nat := 50
def c_laws_sameDeeds_L0 : ACode := .seq (.seq (.reg [.m 11 5, .m 12 0, .n 13 12, .o 14 (.bin .lss 0) [.t 11, .t 13]]) <| .cond (.t 14) ( .skip) ( .exit 0)) <|
 .seq (.block 1 ( .seq (.draw ( .take (.m 17 0) <| .take (.m 18 5) <| .take (.o 19 (.iadr 3) [.t 17, .t 18]) <| .take (.m 21 1) <| .take (.m 22 5) <|
 .take (.o 23 (.iadr 3) [.t 21, .t 22]) <| .alt (.la 20 3 19) ( .al (.la 24 3 23) ( .take (.o 25 (.bin .neq 6) [.t 20, .t 24]) <| .done)) <|
 .al (.la 24 3 23) ( .al (.la 20 3 19) ( .take (.o 25 (.bin .neq 6) [.t 20, .t 24]) <| .done)))) <| .cond (.t 25) ( .seq (.reg [.o 4 .mv [.kb false]]) <|
 .ret) ( .skip))) <| .reg [.m 15 5, .o 16 (.bin .add 0) [.t 15, .k 1], .m 5 16]

def c_laws_sameDeeds : ACode := .seq (.reg [.o 4 .mv [.kb false]]) <| .seq (.seq (.reg [.m 6 0, .n 7 6, .m 8 1, .n 9 8, .o 10 (.bin .neq 0) [.t 7, .t 9]]) <|
 .cond (.t 10) ( .seq (.reg [.o 4 .mv [.kb false]]) <| .ret) ( .skip)) <| .seq (.seq (.reg [.o 5 .mv [.k 0]]) <| .block 0 ( .loop [(0, 3), (1, 3)] [0, 1,
 5] c_laws_sameDeeds_L0)) <| .seq (.reg [.o 4 .mv [.kb true]]) <| .ret

theorem k_laws_sameDeeds : cFn Tryz.prog n_laws_sameDeeds 26 [.t 4] c_laws_sameDeeds := ⟨Tryz.f50, _, Tryz.func50, rfl, by kernel_rfl, by kernel_rfl, by kernel_rfl, by kernel_rfl⟩


-- 1 parameters, results [.t 2], 75 slots, modes [false]
@[simp] abbrev n_laws_FnEndDeeds : Nat := 10
abbrev c_laws_FnEndDeeds_L0_p0 : Plan := .al (.o 61 (.call 18 []) [.t 56, .t 60]) ( .take (.m 55 61) <| .take (.e 62 0 55) <| .take (.e 63 1 55) <| .al (.s (.store 6) [.t 9, .t 62]) ( .take (.m 10 63) <| .done))
abbrev c_laws_FnEndDeeds_L0_p1 : Plan := .alt (.o 61 (.call 18 []) [.t 56, .t 60]) ( .take (.m 55 61) <| .take (.e 62 0 55) <| .take (.e 63 1 55) <| .al (.o 9 (.alloc bz) []) ( .al (.s (.store 6) [.t 9, .t 62]) ( .take (.m 10 63) <| .done))) <| .al (.o 9 (.alloc bz) []) c_laws_FnEndDeeds_L0_p0
def c_laws_FnEndDeeds_L0 : ACode := .seq (.seq (.reg [.m 49 8, .m 50 4, .n 51 50, .o 52 (.bin .lss 0) [.t 49, .t 51]]) <| .cond (.t 52) ( .skip) ( .exit 0)) <|
 .seq (.block 1 ( .seq (.draw ( .take (.m 57 4) <| .take (.m 58 8) <| .take (.o 59 (.iadr 3) [.t 57, .t 58]) <|
 .alt (.la 56 6 7) ( .alt (.la 60 3 59) c_laws_FnEndDeeds_L0_p1 <|
 .al (.o 9 (.alloc bz) []) ( .al (.la 60 3 59) c_laws_FnEndDeeds_L0_p0)) <| .alt (.la 60 3 59) ( .alt (.la 56 6 7) c_laws_FnEndDeeds_L0_p1 <| .al (.o 9 (.alloc bz) []) ( .al (.la 56 6 7) c_laws_FnEndDeeds_L0_p0)) <|
 .al (.o 9 (.alloc bz) []) ( .alt (.la 56 6 7) ( .al (.la 60 3 59) c_laws_FnEndDeeds_L0_p0) <|
 .al (.la 60 3 59) ( .al (.la 56 6 7) c_laws_FnEndDeeds_L0_p0)))) <| .seq (.seq (.reg [.m 64 10, .o 65 (.un .not) [.t 64]]) <|
 .cond (.t 65) ( .seq (.reg [.o 2 .mv [.kb false]]) <| .ret) ( .skip)) <| .reg [.la 66 6 9, .s (.store 6) [.t 7, .t 66]])) <| .reg [.m 53 8,
 .o 54 (.bin .add 0) [.t 53, .k 1], .m 8 54]

def c_laws_FnEndDeeds_T1 : ACode := .seq (.seq (.reg [.m 43 6, .o 44 (.un .not) [.t 43]]) <| .cond (.t 44) ( .seq (.reg [.m 45 4, .n 46 45,
 .o 47 (.bin .eql 0) [.t 46, .k 0], .m 2 47]) <| .ret) ( .skip)) <| .seq (.reg [.la 48 6 3, .o 7 (.alloc bz) [], .s (.store 6) [.t 7, .t 48]]) <|
 .seq (.seq (.reg [.o 8 .mv [.k 0]]) <| .block 0 ( .loop [(4, 3), (5, 1)] [4, 5, 7, 8] c_laws_FnEndDeeds_L0)) <| .seq (.reg [.la 67 6 7,
 .o 68 (.call 24 []) [.t 67], .m 69 68, .fg 70 4 7 69 true, .lg 71 70 69 true, .mg 72 5 69 true, .g 73 (.call 36 []) [.t 71, .t 72] 69 true, .o 74 .pick [.t 69,
 .t 73, .kb false], .m 2 74]) <| .ret

abbrev c_laws_FnEndDeeds_p0 : Plan := .al (.o 40 (.call 52 []) [.t 34, .t 36, .t 39]) ( .take (.m 32 40) <| .take (.e 41 0 32) <| .take (.e 42 1 32) <| .take (.m 5 41) <| .take (.m 6 42) <| .done)
abbrev c_laws_FnEndDeeds_p1 : Plan := .al (.o 39 (.call 53 []) [.t 38]) c_laws_FnEndDeeds_p0
abbrev c_laws_FnEndDeeds_p2 : Plan := .alt (.la 34 3 33) c_laws_FnEndDeeds_p1 <| .al (.o 39 (.call 53 []) [.t 38]) ( .al (.la 34 3 33) c_laws_FnEndDeeds_p0)
abbrev c_laws_FnEndDeeds_p3 : Plan := .alt (.l 36 35) c_laws_FnEndDeeds_p1 <| .al (.o 39 (.call 53 []) [.t 38]) ( .al (.l 36 35) c_laws_FnEndDeeds_p0)
def c_laws_FnEndDeeds : ACode := .seq (.reg [.o 2 .mv [.kb false]]) <| .seq (.seq (.reg [.m 11 0, .n 12 11, .o 13 (.bin .gtr 0) [.t 12, .k 1048576]]) <|
 .cond (.t 13) ( .seq (.reg [.o 2 .mv [.kb true]]) <| .ret) ( .skip)) <| .seq (.reg [.m 14 0, .o 15 (.call 48 []) [.t 14], .o 3 (.alloc bz) [],
 .s (.store 6) [.t 3, .t 15]]) <| .seq (.reg [.la 16 6 3, .o 17 (.call 49 []) [.t 16], .m 4 17]) <| .seq (.seq (.reg [.m 18 4, .la 19 6 3,
 .o 20 (.call 51 []) [.t 19], .o 21 (.call 50 []) [.t 18, .t 20], .o 22 (.un .not) [.t 21]]) <| .cond (.t 22) ( .seq (.reg [.o 2 .mv [.kb false]]) <|
 .ret) ( .skip)) <| .seq (.seq (.reg [.la 23 6 3, .o 24 (.call 46 []) [.t 23], .o 25 (.un .not) [.t 24]]) <| .cond (.t 25) ( .seq (.reg [.m 26 4, .n 27 26,
 .o 28 (.bin .eql 0) [.t 27, .k 0], .m 29 28, .g 30 (.call 17 []) [] 29 true, .o 31 .pick [.t 29, .t 30, .kb false], .m 2 31]) <| .ret) ( .skip)) <|
 .seq (.draw ( .take (.f 33 0 3) <| .take (.f 35 3 3) <| .take (.f 37 0 3) <|
 .alt (.la 34 3 33) ( .alt (.l 36 35) ( .al (.la 38 3 37) c_laws_FnEndDeeds_p1) <|
 .al (.la 38 3 37) c_laws_FnEndDeeds_p3) <|
 .alt (.l 36 35) ( .alt (.la 34 3 33) ( .al (.la 38 3 37) c_laws_FnEndDeeds_p1) <|
 .al (.la 38 3 37) c_laws_FnEndDeeds_p2) <|
 .al (.la 38 3 37) ( .alt (.la 34 3 33) c_laws_FnEndDeeds_p3 <|
 .alt (.l 36 35) c_laws_FnEndDeeds_p2 <|
 .al (.o 39 (.call 53 []) [.t 38]) ( .alt (.la 34 3 33) ( .al (.l 36 35) c_laws_FnEndDeeds_p0) <|
 .al (.l 36 35) ( .al (.la 34 3 33) c_laws_FnEndDeeds_p0))))) <| .gc [] [3, 4, 5, 6] c_laws_FnEndDeeds_T1

theorem k_laws_FnEndDeeds : cFn Tryz.prog n_laws_FnEndDeeds 75 [.t 2] c_laws_FnEndDeeds := ⟨Tryz.f10, _, Tryz.func10, rfl, by kernel_rfl, by kernel_rfl, by kernel_rfl, by kernel_rfl⟩


end Go.Proofs.Dev

namespace Go.Proofs.Dev

-- 3 parameters, results [.t 6], 15 slots, modes [false, false, false]
@[simp] abbrev n_spec_l1In : Nat := 62

def c_spec_l1In : ACode := .seq (.reg [.o 6 .mv [.kb false]]) <| .seq (.reg [.m 7 0, .m 8 1, .o 9 (.bin .geq 0) [.t 7, .t 8], .m 10 9, .mg 11 0 10 true,
 .mg 12 2 10 true, .g 13 (.bin .leq 0) [.t 11, .t 12] 10 true, .o 14 .pick [.t 10, .t 13, .kb false], .m 6 14]) <| .ret

theorem k_spec_l1In : cFn Tryz.prog n_spec_l1In 15 [.t 6] c_spec_l1In := ⟨Tryz.f62, _, Tryz.func62, rfl, by kernel_rfl, by kernel_rfl, by kernel_rfl, by kernel_rfl⟩

-- 1 parameters, results [.t 2], 18 slots, modes [false]
@[simp] abbrev n_spec_l1Count : Nat := 120
def c_spec_l1Count_L0 : ACode := .seq (.seq (.reg [.m 5 4, .m 6 0, .n 7 6, .o 8 (.bin .lss 0) [.t 5, .t 7]]) <| .cond (.t 8) ( .skip) ( .exit 0)) <|
 .seq (.block 1 ( .seq (.reg [.m 11 0, .m 12 4, .o 13 (.iadr 1) [.t 11, .t 12], .l 14 13]) <| .cond (.t 14) ( .reg [.m 15 3, .o 16 (.bin .add 0) [.t 15, .k 1],
 .m 3 16]) ( .skip))) <| .reg [.m 9 4, .o 10 (.bin .add 0) [.t 9, .k 1], .m 4 10]

def c_spec_l1Count : ACode := .seq (.reg [.o 2 .mv [.k 0]]) <| .seq (.reg [.o 3 .mv [.k 0]]) <| .seq (.seq (.reg [.o 4 .mv [.k 0]]) <| .block 0 ( .loop [(0,
 1)] [0, 3, 4] c_spec_l1Count_L0)) <| .seq (.reg [.m 17 3, .m 2 17]) <| .ret

theorem k_spec_l1Count : cFn Tryz.prog n_spec_l1Count 18 [.t 2] c_spec_l1Count := ⟨Tryz.f120, _, Tryz.func120, rfl, by kernel_rfl, by kernel_rfl, by kernel_rfl, by kernel_rfl⟩

-- 1 parameters, results [.t 2], 28 slots, modes [false]
@[simp] abbrev n_spec_RegionValid : Nat := 61

def c_spec_RegionValid : ACode := .seq (.reg [.o 1 .box [.t 0], .o 2 .mv [.kb false]]) <| .seq (.reg [.f 3 0 1, .l 4 3, .o 5 (.call 62 []) [.t 4, .k 1, .k 6],
 .m 6 5, .fg 7 1 1 6 true, .lg 8 7 6 true, .g 9 (.call 62 []) [.t 8, .k 1, .k 6] 6 true, .o 10 .pick [.t 6, .t 9, .kb false], .m 11 10, .fg 12 2 1 11 true,
 .lg 13 12 11 true, .g 14 (.len false) [.t 13] 11 true, .fg 15 0 1 11 true, .lg 16 15 11 true, .fg 17 1 1 11 true, .lg 18 17 11 true, .g 19 (.bin .mul 0) [.t 16,
 .t 18] 11 true, .g 20 (.bin .eql 0) [.t 14, .t 19] 11 true, .o 21 .pick [.t 11, .t 20, .kb false], .m 22 21, .fg 23 2 1 22 true, .lg 24 23 22 true,
 .g 25 (.call 120 []) [.t 24] 22 true, .g 26 (.bin .leq 0) [.t 25, .k 24] 22 true, .o 27 .pick [.t 22, .t 26, .kb false], .m 2 27]) <| .ret

theorem k_spec_RegionValid : cFn Tryz.prog n_spec_RegionValid 28 [.t 2] c_spec_RegionValid := ⟨Tryz.f61, _, Tryz.func61, rfl, by kernel_rfl, by kernel_rfl, by kernel_rfl, by kernel_rfl⟩

-- 2 parameters, results [.t 4], 51 slots, modes [false, false]
@[simp] abbrev n_spec_PuzzleValid : Nat := 15
def c_spec_PuzzleValid_L0 : ACode := .seq (.seq (.reg [.m 17 5, .m 18 1, .n 19 18, .o 20 (.bin .lss 0) [.t 17, .t 19]]) <| .cond (.t 20) ( .skip) ( .exit 0)) <|
 .seq (.block 1 ( .seq (.reg [.f 23 2 2, .l 24 23, .m 25 5, .o 26 (.iadr 1) [.t 24, .t 25], .l 27 26, .m 28 27, .mg 29 1 28 true, .mg 30 5 28 true,
 .g 31 (.iadr 1) [.t 29, .t 30] 28 true, .lg 32 31 28 true, .g 33 (.call 62 []) [.t 32, .k 0, .k 6] 28 true, .g 34 (.un .not) [.t 33] 28 true,
 .o 35 .pick [.t 28, .t 34, .kb false], .m 36 35, .fg 37 2 2 36 false, .lg 38 37 36 false, .mg 39 5 36 false, .g 40 (.iadr 1) [.t 38, .t 39] 36 false,
 .lg 41 40 36 false, .g 42 (.un .not) [.t 41] 36 false, .mg 43 42 36 false, .mg 44 1 43 true, .mg 45 5 43 true, .g 46 (.iadr 1) [.t 44, .t 45] 43 true,
 .lg 47 46 43 true, .g 48 (.bin .neq 0) [.t 47, .k (-1)] 43 true, .g 49 .pick [.t 43, .t 48, .kb false] 36 false, .o 50 .pick [.t 36, .kb true, .t 49]]) <|
 .cond (.t 50) ( .seq (.reg [.o 4 .mv [.kb false]]) <| .ret) ( .skip))) <| .reg [.m 21 5, .o 22 (.bin .add 0) [.t 21, .k 1], .m 5 22]

def c_spec_PuzzleValid : ACode := .seq (.reg [.o 2 .box [.t 0], .o 4 .mv [.kb false]]) <| .seq (.seq (.reg [.la 6 3 2, .o 7 (.call 61 []) [.t 6],
 .o 8 (.un .not) [.t 7], .m 9 8, .mg 10 1 9 false, .g 11 (.len false) [.t 10] 9 false, .fg 12 2 2 9 false, .lg 13 12 9 false, .g 14 (.len false) [.t 13] 9 false,
 .g 15 (.bin .neq 0) [.t 11, .t 14] 9 false, .o 16 .pick [.t 9, .kb true, .t 15]]) <| .cond (.t 16) ( .seq (.reg [.o 4 .mv [.kb false]]) <| .ret) ( .skip)) <|
 .seq (.seq (.reg [.o 5 .mv [.k 0]]) <| .block 0 ( .loop [(1, 1)] [1, 2, 5] c_spec_PuzzleValid_L0)) <| .seq (.reg [.o 4 .mv [.kb true]]) <| .ret

theorem k_spec_PuzzleValid : cFn Tryz.prog n_spec_PuzzleValid 51 [.t 4] c_spec_PuzzleValid := ⟨Tryz.f15, _, Tryz.func15, rfl, by kernel_rfl, by kernel_rfl, by kernel_rfl, by kernel_rfl⟩

-- 3 parameters, results [.t 6], 65 slots, modes [false, false, false]
@[simp] abbrev n_spec_l2Step : Nat := 132

def c_spec_l2Step : ACode := .seq (.reg [.o 3 .box [.t 0], .o 6 .mv [.k 0]]) <| .seq (.block 0 ( .seq (.draw ( .take (.m 8 2) <|
 .take (.o 9 (.bin .eql 0) [.t 8, .k 1]) <| .take (.m 10 9) <| .take (.mg 11 1 10 true) <| .take (.fg 12 0 3 10 true) <| .take (.fg 15 0 3 10 true) <|
 .alt (.lg 13 12 10 true) ( .take (.g 14 (.bin .rem 0) [.t 11, .t 13] 10 true) <| .al (.lg 16 15 10 true) ( .take (.g 17 (.bin .sub 0) [.t 16, .k 1] 10 true) <|
 .take (.g 18 (.bin .lss 0) [.t 14, .t 17] 10 true) <| .take (.o 19 .pick [.t 10, .t 18, .kb false]) <| .take (.m 7 19) <| .done)) <|
 .al (.lg 16 15 10 true) ( .take (.g 17 (.bin .sub 0) [.t 16, .k 1] 10 true) <| .al (.lg 13 12 10 true) ( .take (.g 14 (.bin .rem 0) [.t 11, .t 13] 10 true) <|
 .take (.g 18 (.bin .lss 0) [.t 14, .t 17] 10 true) <| .take (.o 19 .pick [.t 10, .t 18, .kb false]) <| .take (.m 7 19) <| .done)))) <|
 .cond (.t 7) ( .seq (.reg [.m 20 1, .o 21 (.bin .add 0) [.t 20, .k 1], .m 6 21]) <| .ret) ( .seq (.draw ( .take (.m 23 2) <| .take (.o 24 (.bin .eql 0) [.t 23,
 .k 2]) <| .take (.m 25 24) <| .take (.mg 26 1 25 true) <| .take (.fg 27 0 3 25 true) <| .take (.fg 30 1 3 25 true) <|
 .alt (.lg 28 27 25 true) ( .take (.g 29 (.bin .quo 0) [.t 26, .t 28] 25 true) <| .al (.lg 31 30 25 true) ( .take (.g 32 (.bin .sub 0) [.t 31, .k 1] 25 true) <|
 .take (.g 33 (.bin .lss 0) [.t 29, .t 32] 25 true) <| .take (.o 34 .pick [.t 25, .t 33, .kb false]) <| .take (.m 22 34) <| .done)) <|
 .al (.lg 31 30 25 true) ( .take (.g 32 (.bin .sub 0) [.t 31, .k 1] 25 true) <| .al (.lg 28 27 25 true) ( .take (.g 29 (.bin .quo 0) [.t 26, .t 28] 25 true) <|
 .take (.g 33 (.bin .lss 0) [.t 29, .t 32] 25 true) <| .take (.o 34 .pick [.t 25, .t 33, .kb false]) <| .take (.m 22 34) <| .done)))) <|
 .cond (.t 22) ( .seq (.reg [.m 35 1, .f 36 0 3, .l 37 36, .o 38 (.bin .add 0) [.t 35, .t 37], .m 6 38]) <| .ret) ( .seq (.reg [.m 40 2,
 .o 41 (.bin .eql 0) [.t 40, .k 3], .m 42 41, .mg 43 1 42 true, .fg 44 0 3 42 true, .lg 45 44 42 true, .g 46 (.bin .rem 0) [.t 43, .t 45] 42 true,
 .g 47 (.bin .gtr 0) [.t 46, .k 0] 42 true, .o 48 .pick [.t 42, .t 47, .kb false], .m 39 48]) <| .cond (.t 39) ( .seq (.reg [.m 49 1, .o 50 (.bin .sub 0) [.t 49,
 .k 1], .m 6 50]) <| .ret) ( .seq (.reg [.m 52 2, .o 53 (.bin .eql 0) [.t 52, .k 4], .m 54 53, .mg 55 1 54 true, .fg 56 0 3 54 true, .lg 57 56 54 true,
 .g 58 (.bin .quo 0) [.t 55, .t 57] 54 true, .g 59 (.bin .gtr 0) [.t 58, .k 0] 54 true, .o 60 .pick [.t 54, .t 59, .kb false], .m 51 60]) <|
 .cond (.t 51) ( .seq (.reg [.m 61 1, .f 62 0 3, .l 63 62, .o 64 (.bin .sub 0) [.t 61, .t 63], .m 6 64]) <| .ret) ( .skip)))))) <|
 .seq (.reg [.o 6 .mv [.k (-1)]]) <| .ret

theorem k_spec_l2Step : cFn Tryz.prog n_spec_l2Step 65 [.t 6] c_spec_l2Step := ⟨Tryz.f132, _, Tryz.func132, rfl, by kernel_rfl, by kernel_rfl, by kernel_rfl, by kernel_rfl⟩

-- 1 parameters, results [.t 2], 7 slots, modes [false]
@[simp] abbrev n_spec_l2Back : Nat := 131

def c_spec_l2Back : ACode := .seq (.reg [.o 2 .mv [.k 0]]) <| .seq (.reg [.m 3 0, .o 4 (.bin .add 0) [.t 3, .k 1], .o 5 (.bin .rem 0) [.t 4, .k 4],
 .o 6 (.bin .add 0) [.t 5, .k 1], .m 2 6]) <| .ret

theorem k_spec_l2Back : cFn Tryz.prog n_spec_l2Back 7 [.t 2] c_spec_l2Back := ⟨Tryz.f131, _, Tryz.func131, rfl, by kernel_rfl, by kernel_rfl, by kernel_rfl, by kernel_rfl⟩

-- 2 parameters, results [.t 4], 72 slots, modes [false, false]
@[simp] abbrev n_spec_LaidOk : Nat := 128
abbrev c_spec_LaidOk_L0_p0 : Plan := .take (.g 70 (.bin .neq 0) [.t 64, .t 69] 60 false) <| .take (.o 71 .pick [.t 60, .kb true, .t 70]) <| .done
abbrev c_spec_LaidOk_L0_p1 : Plan := .al (.o 49 (.call 132 []) [.t 43, .t 44, .t 48]) ( .take (.m 6 49) <| .done)
abbrev c_spec_LaidOk_L0_p2 : Plan := .al (.g 69 (.call 131 []) [.t 68] 60 false) c_spec_LaidOk_L0_p0
def c_spec_LaidOk_L0 : ACode := .seq (.seq (.reg [.m 18 5, .m 19 1, .n 20 19, .o 21 (.bin .lss 0) [.t 18, .t 20]]) <| .cond (.t 21) ( .skip) ( .exit 0)) <|
 .seq (.block 1 ( .seq (.seq (.reg [.m 24 1, .m 25 5, .o 26 (.iadr 1) [.t 24, .t 25], .l 27 26, .o 28 (.bin .eql 0) [.t 27, .k 0]]) <|
 .cond (.t 28) ( .exit 1) ( .skip)) <| .seq (.seq (.reg [.m 29 1, .m 30 5, .o 31 (.iadr 1) [.t 29, .t 30], .l 32 31, .o 33 (.call 62 []) [.t 32, .k 1, .k 4],
 .o 34 (.un .not) [.t 33], .m 35 34, .fg 36 2 2 35 false, .lg 37 36 35 false, .mg 38 5 35 false, .g 39 (.iadr 1) [.t 37, .t 38] 35 false, .lg 40 39 35 false,
 .g 41 (.un .not) [.t 40] 35 false, .o 42 .pick [.t 35, .kb true, .t 41]]) <| .cond (.t 42) ( .seq (.reg [.o 4 .mv [.kb false]]) <| .ret) ( .skip)) <|
 .seq (.draw ( .take (.m 44 5) <| .take (.m 45 1) <| .take (.m 46 5) <| .take (.o 47 (.iadr 1) [.t 45, .t 46]) <|
 .alt (.la 43 3 2) ( .al (.l 48 47) c_spec_LaidOk_L0_p1) <|
 .al (.l 48 47) ( .al (.la 43 3 2) c_spec_LaidOk_L0_p1))) <| .seq (.draw ( .take (.m 50 6) <|
 .take (.o 51 (.bin .lss 0) [.t 50, .k 0]) <| .take (.m 52 51) <| .take (.fg 53 2 2 52 false) <| .take (.mg 55 6 52 false) <|
 .al (.lg 54 53 52 false) ( .take (.g 56 (.iadr 1) [.t 54, .t 55] 52 false) <| .al (.lg 57 56 52 false) ( .take (.g 58 (.un .not) [.t 57] 52 false) <|
 .take (.o 59 .pick [.t 52, .kb true, .t 58]) <| .take (.m 60 59) <| .take (.mg 61 1 60 false) <| .take (.mg 62 6 60 false) <| .take (.g 63 (.iadr 1) [.t 61,
 .t 62] 60 false) <| .take (.mg 65 1 60 false) <| .take (.mg 66 5 60 false) <| .take (.g 67 (.iadr 1) [.t 65, .t 66] 60 false) <|
 .alt (.lg 64 63 60 false) ( .al (.lg 68 67 60 false) c_spec_LaidOk_L0_p2) <|
 .al (.lg 68 67 60 false) ( .alt (.lg 64 63 60 false) c_spec_LaidOk_L0_p2 <|
 .al (.g 69 (.call 131 []) [.t 68] 60 false) ( .al (.lg 64 63 60 false) c_spec_LaidOk_L0_p0)))))) <| .cond (.t 71) ( .seq (.reg [.o 4 .mv [.kb false]]) <| .ret) ( .skip))) <| .reg [.m 22 5, .o 23 (.bin .add 0) [.t 22, .k 1],
 .m 5 23]

def c_spec_LaidOk : ACode := .seq (.reg [.o 2 .box [.t 0], .o 4 .mv [.kb false]]) <| .seq (.seq (.reg [.la 7 3 2, .o 8 (.call 61 []) [.t 7],
 .o 9 (.un .not) [.t 8], .m 10 9, .mg 11 1 10 false, .g 12 (.len false) [.t 11] 10 false, .fg 13 2 2 10 false, .lg 14 13 10 false,
 .g 15 (.len false) [.t 14] 10 false, .g 16 (.bin .neq 0) [.t 12, .t 15] 10 false, .o 17 .pick [.t 10, .kb true, .t 16]]) <|
 .cond (.t 17) ( .seq (.reg [.o 4 .mv [.kb false]]) <| .ret) ( .skip)) <| .seq (.seq (.reg [.o 5 .mv [.k 0]]) <| .block 0 ( .loop [(1, 1)] [1, 2,
 5] c_spec_LaidOk_L0)) <| .seq (.reg [.o 4 .mv [.kb true]]) <| .ret

theorem k_spec_LaidOk : cFn Tryz.prog n_spec_LaidOk 72 [.t 4] c_spec_LaidOk := ⟨Tryz.f128, _, Tryz.func128, rfl, by kernel_rfl, by kernel_rfl, by kernel_rfl, by kernel_rfl⟩

-- 2 parameters, results [.t 4], 21 slots, modes [false, false]
@[simp] abbrev n_spec_PairOf : Nat := 170

def c_spec_PairOf : ACode := .seq (.reg [.o 4 .mv [.k 0]]) <| .seq (.seq (.reg [.m 5 0, .o 6 (.call 62 []) [.t 5, .k 0, .k 6], .o 7 (.un .not) [.t 6], .m 8 7,
 .mg 9 1 8 false, .g 10 (.call 62 []) [.t 9, .k 0, .k 6] 8 false, .g 11 (.un .not) [.t 10] 8 false, .o 12 .pick [.t 8, .kb true, .t 11]]) <|
 .cond (.t 12) ( .seq (.reg [.o 4 .mv [.k (-1)]]) <| .ret) ( .skip)) <| .seq (.reg [.m 13 0, .m 14 1, .o 15 (.mnx true) [.t 13, .t 14],
 .o 16 (.bin .mul 0) [.k 7, .t 15], .m 17 0, .m 18 1, .o 19 (.mnx false) [.t 17, .t 18], .o 20 (.bin .add 0) [.t 16, .t 19], .m 4 20]) <| .ret

theorem k_spec_PairOf : cFn Tryz.prog n_spec_PairOf 21 [.t 4] c_spec_PairOf := ⟨Tryz.f170, _, Tryz.func170, rfl, by kernel_rfl, by kernel_rfl, by kernel_rfl, by kernel_rfl⟩

-- 3 parameters, results [.t 6], 57 slots, modes [false, false, false]
@[simp] abbrev n_spec_PairsOf : Nat := 137
abbrev c_spec_PairsOf_L0_p0 : Plan := .al (.o 53 (.call 170 []) [.t 42, .t 52]) ( .al (.o 54 (.bsl 1) [.t 53]) ( .al (.o 55 (.app 1 8 true) [.t 38, .t 54]) ( .take (.m 7 55) <| .done)))
abbrev c_spec_PairsOf_L0_p1 : Plan := .al (.o 50 (.call 132 []) [.t 44, .t 45, .t 49]) ( .take (.o 51 (.iadr 1) [.t 43, .t 50]) <| .al (.l 52 51) c_spec_PairsOf_L0_p0)
abbrev c_spec_PairsOf_L0_p2 : Plan := .alt (.l 42 41) c_spec_PairsOf_L0_p1 <| .al (.o 50 (.call 132 []) [.t 44, .t 45, .t 49]) ( .take (.o 51 (.iadr 1) [.t 43, .t 50]) <| .alt (.l 42 41) ( .al (.l 52 51) c_spec_PairsOf_L0_p0) <| .al (.l 52 51) ( .al (.l 42 41) c_spec_PairsOf_L0_p0))
def c_spec_PairsOf_L0 : ACode := .seq (.seq (.reg [.m 10 8, .m 11 2, .n 12 11, .o 13 (.bin .lss 0) [.t 10, .t 12], .m 14 13,
 .g 15 (.load true 3) [.t 3] 14 true, .mg 16 1 14 true, .g 17 (.call 15 []) [.t 15, .t 16] 14 true, .o 18 .pick [.t 14, .t 17, .kb false], .m 19 18,
 .g 20 (.load true 3) [.t 3] 19 true, .mg 21 2 19 true, .g 22 (.call 128 []) [.t 20, .t 21] 19 true, .o 23 .pick [.t 19, .t 22, .kb false]]) <|
 .cond (.t 23) ( .skip) ( .exit 0)) <| .seq (.block 1 ( .seq (.reg [.m 26 2, .m 27 8, .o 28 (.iadr 1) [.t 26, .t 27], .l 29 28, .o 30 (.bin .eql 0) [.t 29,
 .k 1], .m 31 30, .mg 32 2 31 false, .mg 33 8 31 false, .g 34 (.iadr 1) [.t 32, .t 33] 31 false, .lg 35 34 31 false, .g 36 (.bin .eql 0) [.t 35, .k 2] 31 false,
 .o 37 .pick [.t 31, .kb true, .t 36]]) <| .cond (.t 37) ( .draw ( .take (.m 38 7) <| .take (.m 39 1) <| .take (.m 40 8) <| .take (.o 41 (.iadr 1) [.t 39,
 .t 40]) <| .take (.m 43 1) <| .take (.m 45 8) <| .take (.m 46 2) <| .take (.m 47 8) <| .take (.o 48 (.iadr 1) [.t 46, .t 47]) <|
 .alt (.l 42 41) ( .alt (.la 44 3 3) ( .al (.l 49 48) c_spec_PairsOf_L0_p1) <| .al (.l 49 48) ( .al (.la 44 3 3) c_spec_PairsOf_L0_p1)) <| .alt (.la 44 3 3) ( .alt (.l 42 41) ( .al (.l 49 48) c_spec_PairsOf_L0_p1) <| .al (.l 49 48) c_spec_PairsOf_L0_p2) <| .al (.l 49 48) ( .alt (.l 42 41) ( .al (.la 44 3 3) c_spec_PairsOf_L0_p1) <|
 .al (.la 44 3 3) c_spec_PairsOf_L0_p2))) ( .skip))) <| .reg [.m 24 8,
 .o 25 (.bin .add 0) [.t 24, .k 1], .m 8 25]

def c_spec_PairsOf : ACode := .seq (.reg [.o 3 .box [.t 0], .o 6 .mv [.c (.os 1 [])]]) <| .seq (.reg [.o 9 (.bsl 1) [], .m 7 9]) <|
 .seq (.seq (.reg [.o 8 .mv [.k 0]]) <| .block 0 ( .loop [(1, 1), (2, 1), (7, 1)] [1, 2, 3, 7, 8] c_spec_PairsOf_L0)) <| .seq (.reg [.m 56 7, .m 6 56]) <| .ret

theorem k_spec_PairsOf : cFn Tryz.prog n_spec_PairsOf 57 [.t 6] c_spec_PairsOf := ⟨Tryz.f137, _, Tryz.func137, rfl, by kernel_rfl, by kernel_rfl, by kernel_rfl, by kernel_rfl⟩

-- 3 parameters, results [.t 6], 15 slots, modes [false, false, false]
@[simp] abbrev n_impl_in : Nat := 121

def c_impl_in : ACode := .seq (.reg [.o 6 .mv [.kb false]]) <| .seq (.reg [.m 7 0, .m 8 1, .o 9 (.bin .geq 0) [.t 7, .t 8], .m 10 9, .mg 11 0 10 true,
 .mg 12 2 10 true, .g 13 (.bin .leq 0) [.t 11, .t 12] 10 true, .o 14 .pick [.t 10, .t 13, .kb false], .m 6 14]) <| .ret

theorem k_impl_in : cFn Tryz.prog n_impl_in 15 [.t 6] c_impl_in := ⟨Tryz.f121, _, Tryz.func121, rfl, by kernel_rfl, by kernel_rfl, by kernel_rfl, by kernel_rfl⟩

-- 1 parameters, results [.t 2], 17 slots, modes [false]
@[simp] abbrev n_impl_many : Nat := 70
def c_impl_many_L0 : ACode := .seq (.reg [.o 9 (.bin .lss 0) [.t 8, .t 7]]) <| .seq (.cond (.t 9) ( .skip) ( .exit 0)) <|
 .seq (.block 1 ( .seq (.reg [.o 10 (.iadr 1) [.t 6, .t 8], .l 11 10, .m 5 11]) <| .seq (.reg [.m 12 5]) <| .cond (.t 12) ( .reg [.m 13 3,
 .o 14 (.bin .add 0) [.t 13, .k 1], .m 3 14]) ( .skip))) <| .reg [.o 15 (.bin .add 0) [.t 8, .k 1], .m 8 15]

def c_impl_many : ACode := .seq (.reg [.o 2 .mv [.k 0]]) <| .seq (.reg [.o 3 .mv [.k 0]]) <| .seq (.seq (.reg [.m 6 0, .n 7 6, .o 8 .mv [.k 0]]) <|
 .block 0 ( .loop [(6, 1)] [3, 6, 7, 8] c_impl_many_L0)) <| .seq (.reg [.m 16 3, .m 2 16]) <| .ret

theorem k_impl_many : cFn Tryz.prog n_impl_many 17 [.t 2] c_impl_many := ⟨Tryz.f70, _, Tryz.func70, rfl, by kernel_rfl, by kernel_rfl, by kernel_rfl, by kernel_rfl⟩

-- 1 parameters, results [.t 2], 28 slots, modes [false]
@[simp] abbrev n_impl_RegionValid : Nat := 69

def c_impl_RegionValid : ACode := .seq (.reg [.o 1 .box [.t 0], .o 2 .mv [.kb false]]) <| .seq (.reg [.f 3 0 1, .l 4 3, .o 5 (.call 121 []) [.t 4, .k 1, .k 6],
 .m 6 5, .fg 7 1 1 6 true, .lg 8 7 6 true, .g 9 (.call 121 []) [.t 8, .k 1, .k 6] 6 true, .o 10 .pick [.t 6, .t 9, .kb false], .m 11 10, .fg 12 2 1 11 true,
 .lg 13 12 11 true, .g 14 (.len false) [.t 13] 11 true, .fg 15 0 1 11 true, .lg 16 15 11 true, .fg 17 1 1 11 true, .lg 18 17 11 true, .g 19 (.bin .mul 0) [.t 16,
 .t 18] 11 true, .g 20 (.bin .eql 0) [.t 14, .t 19] 11 true, .o 21 .pick [.t 11, .t 20, .kb false], .m 22 21, .fg 23 2 1 22 true, .lg 24 23 22 true,
 .g 25 (.call 70 []) [.t 24] 22 true, .g 26 (.bin .leq 0) [.t 25, .k 24] 22 true, .o 27 .pick [.t 22, .t 26, .kb false], .m 2 27]) <| .ret

theorem k_impl_RegionValid : cFn Tryz.prog n_impl_RegionValid 28 [.t 2] c_impl_RegionValid := ⟨Tryz.f69, _, Tryz.func69, rfl, by kernel_rfl, by kernel_rfl, by kernel_rfl, by kernel_rfl⟩

-- 2 parameters, results [.t 4], 43 slots, modes [false, false]
@[simp] abbrev n_impl_puzzle : Nat := 115
def c_impl_puzzle_L0 : ACode := .seq (.reg [.o 16 (.bin .lss 0) [.t 15, .t 14]]) <| .seq (.cond (.t 16) ( .skip) ( .exit 0)) <|
 .seq (.block 1 ( .seq (.reg [.m 17 15, .o 18 (.iadr 1) [.t 13, .t 15], .l 19 18, .m 5 17, .m 6 19]) <| .seq (.reg [.f 20 2 2, .l 21 20, .m 22 5,
 .o 23 (.iadr 1) [.t 21, .t 22], .l 24 23, .m 25 24, .mg 26 6 25 true, .g 27 (.call 121 []) [.t 26, .k 0, .k 6] 25 true, .g 28 (.un .not) [.t 27] 25 true,
 .o 29 .pick [.t 25, .t 28, .kb false], .m 30 29, .fg 31 2 2 30 false, .lg 32 31 30 false, .mg 33 5 30 false, .g 34 (.iadr 1) [.t 32, .t 33] 30 false,
 .lg 35 34 30 false, .g 36 (.un .not) [.t 35] 30 false, .mg 37 36 30 false, .mg 38 6 37 true, .g 39 (.bin .neq 0) [.t 38, .k (-1)] 37 true, .g 40 .pick [.t 37,
 .t 39, .kb false] 30 false, .o 41 .pick [.t 30, .kb true, .t 40]]) <| .cond (.t 41) ( .seq (.reg [.o 4 .mv [.kb false]]) <| .ret) ( .skip))) <|
 .reg [.o 42 (.bin .add 0) [.t 15, .k 1], .m 15 42]

def c_impl_puzzle : ACode := .seq (.reg [.o 2 .box [.t 0], .o 4 .mv [.kb false]]) <| .seq (.seq (.reg [.m 7 1, .n 8 7, .f 9 2 2, .l 10 9, .n 11 10,
 .o 12 (.bin .neq 0) [.t 8, .t 11]]) <| .cond (.t 12) ( .seq (.reg [.o 4 .mv [.kb false]]) <| .ret) ( .skip)) <| .seq (.seq (.reg [.m 13 1, .n 14 13,
 .o 15 .mv [.k 0]]) <| .block 0 ( .loop [(13, 1)] [2, 13, 14, 15] c_impl_puzzle_L0)) <| .seq (.reg [.o 4 .mv [.kb true]]) <| .ret

theorem k_impl_puzzle : cFn Tryz.prog n_impl_puzzle 43 [.t 4] c_impl_puzzle := ⟨Tryz.f115, _, Tryz.func115, rfl, by kernel_rfl, by kernel_rfl, by kernel_rfl, by kernel_rfl⟩

-- 2 parameters, results [.t 4], 12 slots, modes [false, false]
@[simp] abbrev n_impl_PuzzleValid : Nat := 56

def c_impl_PuzzleValid : ACode := .seq (.reg [.o 2 .box [.t 0], .o 4 .mv [.kb false]]) <| .seq (.reg [.la 5 3 2, .o 6 (.call 69 []) [.t 5], .m 7 6,
 .g 8 (.load true 3) [.t 2] 7 true, .mg 9 1 7 true, .g 10 (.call 115 []) [.t 8, .t 9] 7 true, .o 11 .pick [.t 7, .t 10, .kb false], .m 4 11]) <| .ret

theorem k_impl_PuzzleValid : cFn Tryz.prog n_impl_PuzzleValid 12 [.t 4] c_impl_PuzzleValid := ⟨Tryz.f56, _, Tryz.func56, rfl, by kernel_rfl, by kernel_rfl, by kernel_rfl, by kernel_rfl⟩

-- 2 parameters, results [.t 4, .t 5], 14 slots, modes [false, false]
@[simp] abbrev n_impl_Region_xy : Nat := 174

def c_impl_Region_xy : ACode := .seq (.reg [.o 2 .box [.t 0], .o 4 .mv [.k 0], .o 5 .mv [.k 0]]) <| .seq (.draw ( .take (.m 6 1) <| .take (.f 7 0 2) <|
 .take (.m 10 1) <| .take (.f 11 0 2) <| .alt (.l 8 7) ( .take (.o 9 (.bin .rem 0) [.t 6, .t 8]) <| .take (.m 4 9) <|
 .al (.l 12 11) ( .take (.o 13 (.bin .quo 0) [.t 10, .t 12]) <| .take (.m 5 13) <| .done)) <| .al (.l 12 11) ( .take (.o 13 (.bin .quo 0) [.t 10, .t 12]) <|
 .al (.l 8 7) ( .take (.o 9 (.bin .rem 0) [.t 6, .t 8]) <| .take (.m 4 9) <| .take (.m 5 13) <| .done)))) <| .ret

theorem k_impl_Region_xy : cFn Tryz.prog n_impl_Region_xy 14 [.t 4, .t 5] c_impl_Region_xy := ⟨Tryz.f174, _, Tryz.func174, rfl, by kernel_rfl, by kernel_rfl, by kernel_rfl, by kernel_rfl⟩

-- 3 parameters, results [.t 6], 52 slots, modes [false, false, false]
@[simp] abbrev n_impl_Region_step : Nat := 147

def c_impl_Region_step : ACode := .seq (.reg [.o 3 .box [.t 0], .o 6 .mv [.k 0]]) <| .seq (.reg [.la 10 3 3, .m 11 1, .o 12 (.call 174 []) [.t 10, .t 11],
 .m 9 12, .e 13 0 9, .e 14 1 9, .m 7 13, .m 8 14]) <| .seq (.seq (.reg [.m 15 2]) <| .block 0 ( .seq (.reg [.o 17 (.bin .eql 0) [.t 15, .k 1], .m 16 17]) <|
 .cond (.t 16) ( .reg [.m 18 7, .o 19 (.bin .add 0) [.t 18, .k 1], .m 7 19]) ( .seq (.reg [.o 21 (.bin .eql 0) [.t 15, .k 2], .m 20 21]) <|
 .cond (.t 20) ( .reg [.m 22 8, .o 23 (.bin .add 0) [.t 22, .k 1], .m 8 23]) ( .seq (.reg [.o 25 (.bin .eql 0) [.t 15, .k 3], .m 24 25]) <|
 .cond (.t 24) ( .reg [.m 26 7, .o 27 (.bin .sub 0) [.t 26, .k 1], .m 7 27]) ( .seq (.reg [.o 29 (.bin .eql 0) [.t 15, .k 4], .m 28 29]) <|
 .cond (.t 28) ( .reg [.m 30 8, .o 31 (.bin .sub 0) [.t 30, .k 1], .m 8 31]) ( .seq (.reg [.o 6 .mv [.k (-1)]]) <| .ret)))))) <| .seq (.seq (.reg [.m 32 7,
 .f 33 0 3, .l 34 33, .o 35 (.bin .sub 0) [.t 34, .k 1], .o 36 (.call 121 []) [.t 32, .k 0, .t 35], .o 37 (.un .not) [.t 36], .m 38 37, .mg 39 8 38 false,
 .fg 40 1 3 38 false, .lg 41 40 38 false, .g 42 (.bin .sub 0) [.t 41, .k 1] 38 false, .g 43 (.call 121 []) [.t 39, .k 0, .t 42] 38 false,
 .g 44 (.un .not) [.t 43] 38 false, .o 45 .pick [.t 38, .kb true, .t 44]]) <| .cond (.t 45) ( .seq (.reg [.o 6 .mv [.k (-1)]]) <| .ret) ( .skip)) <|
 .seq (.reg [.m 46 8, .f 47 0 3, .l 48 47, .o 49 (.bin .mul 0) [.t 46, .t 48], .m 50 7, .o 51 (.bin .add 0) [.t 49, .t 50], .m 6 51]) <| .ret

theorem k_impl_Region_step : cFn Tryz.prog n_impl_Region_step 52 [.t 6] c_impl_Region_step := ⟨Tryz.f147, _, Tryz.func147, rfl, by kernel_rfl, by kernel_rfl, by kernel_rfl, by kernel_rfl⟩

-- 1 parameters, results [.t 2], 7 slots, modes [false]
@[simp] abbrev n_impl_back : Nat := 148

def c_impl_back : ACode := .seq (.reg [.o 2 .mv [.k 0]]) <| .seq (.reg [.m 3 0, .o 4 (.bin .add 0) [.t 3, .k 1], .o 5 (.bin .rem 0) [.t 4, .k 4],
 .o 6 (.bin .add 0) [.t 5, .k 1], .m 2 6]) <| .ret

theorem k_impl_back : cFn Tryz.prog n_impl_back 7 [.t 2] c_impl_back := ⟨Tryz.f148, _, Tryz.func148, rfl, by kernel_rfl, by kernel_rfl, by kernel_rfl, by kernel_rfl⟩

-- 2 parameters, results [.t 4], 55 slots, modes [false, false]
@[simp] abbrev n_impl_Region_lays : Nat := 106
abbrev c_impl_Region_lays_L0_p0 : Plan := .take (.g 52 (.bin .neq 0) [.t 49, .t 51] 45 false) <| .take (.o 53 .pick [.t 45, .kb true, .t 52]) <| .done
def c_impl_Region_lays_L0 : ACode := .seq (.reg [.o 17 (.bin .lss 0) [.t 16, .t 15]]) <| .seq (.cond (.t 17) ( .skip) ( .exit 0)) <|
 .seq (.block 1 ( .seq (.reg [.m 18 16, .o 19 (.iadr 1) [.t 14, .t 16], .l 20 19, .m 5 18, .m 6 20]) <| .seq (.seq (.reg [.m 21 6, .o 22 (.bin .eql 0) [.t 21,
 .k 0]]) <| .cond (.t 22) ( .exit 1) ( .skip)) <| .seq (.reg [.la 23 3 2, .m 24 5, .m 25 6, .o 26 (.call 147 []) [.t 23, .t 24, .t 25], .m 7 26]) <|
 .seq (.draw ( .take (.m 27 7) <| .take (.o 28 (.bin .lss 0) [.t 27, .k 0]) <| .take (.m 29 28) <| .take (.fg 30 2 2 29 false) <| .take (.mg 32 5 29 false) <|
 .al (.lg 31 30 29 false) ( .take (.g 33 (.iadr 1) [.t 31, .t 32] 29 false) <| .al (.lg 34 33 29 false) ( .take (.g 35 (.un .not) [.t 34] 29 false) <|
 .take (.o 36 .pick [.t 29, .kb true, .t 35]) <| .take (.m 37 36) <| .take (.fg 38 2 2 37 false) <| .take (.mg 40 7 37 false) <|
 .al (.lg 39 38 37 false) ( .take (.g 41 (.iadr 1) [.t 39, .t 40] 37 false) <| .al (.lg 42 41 37 false) ( .take (.g 43 (.un .not) [.t 42] 37 false) <|
 .take (.o 44 .pick [.t 37, .kb true, .t 43]) <| .take (.m 45 44) <| .take (.mg 46 1 45 false) <| .take (.mg 47 7 45 false) <| .take (.g 48 (.iadr 1) [.t 46,
 .t 47] 45 false) <| .take (.mg 50 6 45 false) <| .alt (.lg 49 48 45 false) ( .al (.g 51 (.call 148 []) [.t 50] 45 false) c_impl_Region_lays_L0_p0) <|
 .al (.g 51 (.call 148 []) [.t 50] 45 false) ( .al (.lg 49 48 45 false) c_impl_Region_lays_L0_p0))))))) <| .cond (.t 53) ( .seq (.reg [.o 4 .mv [.kb false]]) <| .ret) ( .skip))) <| .reg [.o 54 (.bin .add 0) [.t 16, .k 1],
 .m 16 54]

def c_impl_Region_lays : ACode := .seq (.reg [.o 2 .box [.t 0], .o 4 .mv [.kb false]]) <| .seq (.seq (.reg [.m 8 1, .n 9 8, .f 10 2 2, .l 11 10, .n 12 11,
 .o 13 (.bin .neq 0) [.t 9, .t 12]]) <| .cond (.t 13) ( .seq (.reg [.o 4 .mv [.kb false]]) <| .ret) ( .skip)) <| .seq (.seq (.reg [.m 14 1, .n 15 14,
 .o 16 .mv [.k 0]]) <| .block 0 ( .loop [(1, 1), (14, 1)] [1, 2, 14, 15, 16] c_impl_Region_lays_L0)) <| .seq (.reg [.o 4 .mv [.kb true]]) <| .ret

theorem k_impl_Region_lays : cFn Tryz.prog n_impl_Region_lays 55 [.t 4] c_impl_Region_lays := ⟨Tryz.f106, _, Tryz.func106, rfl, by kernel_rfl, by kernel_rfl, by kernel_rfl, by kernel_rfl⟩

-- 2 parameters, results [.t 4], 13 slots, modes [false, false]
@[simp] abbrev n_impl_pair : Nat := 175

def c_impl_pair : ACode := .seq (.reg [.o 4 .mv [.k 0]]) <| .seq (.reg [.m 5 0, .m 6 1, .o 7 (.mnx true) [.t 5, .t 6], .o 8 (.bin .mul 0) [.k 7, .t 7], .m 9 0,
 .m 10 1, .o 11 (.mnx false) [.t 9, .t 10], .o 12 (.bin .add 0) [.t 8, .t 11], .m 4 12]) <| .ret

theorem k_impl_pair : cFn Tryz.prog n_impl_pair 13 [.t 4] c_impl_pair := ⟨Tryz.f175, _, Tryz.func175, rfl, by kernel_rfl, by kernel_rfl, by kernel_rfl, by kernel_rfl⟩

-- 1 parameters, results [.t 2], 9 slots, modes [true]
@[simp] abbrev n_slices_Clip_int_int : Nat := 118

def c_slices_Clip_int_int : ACode := .seq (.reg [.o 2 .mv [.c (.os 1 [])]]) <| .seq (.reg [.m 3 0, .m 4 0, .n 5 4, .m 6 0, .n 7 6,
 .o 8 (.slice 1 false false true true) [.t 3, .t 5, .t 7], .m 2 8]) <| .ret

theorem k_slices_Clip_int_int : cFn Tryz.prog n_slices_Clip_int_int 9 [.t 2] c_slices_Clip_int_int := ⟨Tryz.f118, _, Tryz.func118, rfl, by kernel_rfl, by kernel_rfl, by kernel_rfl, by kernel_rfl⟩

-- 3 parameters, results [.t 6], 41 slots, modes [false, false, false]
@[simp] abbrev n_impl_Region_pairs : Nat := 149
abbrev c_impl_Region_pairs_L0_p0 : Plan := .al (.o 35 (.call 175 []) [.t 27, .t 34]) ( .al (.o 36 (.bsl 1) [.t 35]) ( .al (.o 37 (.app 1 8 true) [.t 23, .t 36]) ( .take (.m 7 37) <| .done)))
abbrev c_impl_Region_pairs_L0_p1 : Plan := .al (.o 32 (.call 147 []) [.t 29, .t 30, .t 31]) ( .take (.o 33 (.iadr 1) [.t 28, .t 32]) <| .al (.l 34 33) c_impl_Region_pairs_L0_p0)
def c_impl_Region_pairs_L0 : ACode := .seq (.reg [.o 13 (.bin .lss 0) [.t 12, .t 11]]) <| .seq (.cond (.t 13) ( .skip) ( .exit 0)) <|
 .seq (.block 1 ( .seq (.reg [.m 14 12, .o 15 (.iadr 1) [.t 10, .t 12], .l 16 15, .m 8 14, .m 9 16]) <| .seq (.reg [.m 17 9, .o 18 (.bin .eql 0) [.t 17, .k 1],
 .m 19 18, .mg 20 9 19 false, .g 21 (.bin .eql 0) [.t 20, .k 2] 19 false, .o 22 .pick [.t 19, .kb true, .t 21]]) <| .cond (.t 22) ( .draw ( .take (.m 23 7) <|
 .take (.m 24 1) <| .take (.m 25 8) <| .take (.o 26 (.iadr 1) [.t 24, .t 25]) <| .take (.m 28 1) <| .take (.m 30 8) <| .take (.m 31 9) <|
 .alt (.l 27 26) ( .al (.la 29 3 3) c_impl_Region_pairs_L0_p1) <| .al (.la 29 3 3) ( .alt (.l 27 26) c_impl_Region_pairs_L0_p1 <| .al (.o 32 (.call 147 []) [.t 29, .t 30, .t 31]) ( .take (.o 33 (.iadr 1) [.t 28, .t 32]) <|
 .alt (.l 27 26) ( .al (.l 34 33) c_impl_Region_pairs_L0_p0) <| .al (.l 34 33) ( .al (.l 27 26) c_impl_Region_pairs_L0_p0))))) ( .skip))) <|
 .reg [.o 38 (.bin .add 0) [.t 12, .k 1], .m 12 38]

def c_impl_Region_pairs : ACode := .seq (.reg [.o 3 .box [.t 0], .o 6 .mv [.c (.os 1 [])]]) <| .seq (.reg [.o 7 .mv [.c (.os 1 [])]]) <|
 .seq (.seq (.reg [.m 10 2, .n 11 10, .o 12 .mv [.k 0]]) <| .block 0 ( .loop [(1, 1), (7, 1), (10, 1)] [1, 3, 7, 10, 11, 12] c_impl_Region_pairs_L0)) <|
 .seq (.reg [.m 39 7, .o 40 (.call 118 []) [.t 39], .m 6 40]) <| .ret

theorem k_impl_Region_pairs : cFn Tryz.prog n_impl_Region_pairs 41 [.t 6] c_impl_Region_pairs := ⟨Tryz.f149, _, Tryz.func149, rfl, by kernel_rfl, by kernel_rfl, by kernel_rfl, by kernel_rfl⟩

end Go.Proofs.Dev

namespace Go.Proofs.Dev
set_option linter.unusedSimpArgs false
set_option maxRecDepth 100000

@[simp] def md0 (f : Nat) : List Bool := if f = 92 ∨ f = 93 ∨ f = 140 ∨ f = 31 ∨ f = 94 then [true, false] else if f = 118 ∨ f = 116 ∨ f = 145 ∨ f = 150 ∨ f = 151 then [true] else []

theorem s_slices_Clip_int_int (xs : List Int) : SoundAt Tryz.prog n_slices_Clip_int_int [.os 1 (ints xs)] (.os 1 (ints xs)) [.bot] := by
  refine fn_ok (md := md0) (ms := [false]) k_slices_Clip_int_int (by simp) ?_
  simp [c_slices_Clip_int_int]

def marksB (n : Nat) (k : Int) : List Bool := (List.range n).map fun (j : Nat) => (k + j) % 3 == 0
def marksI (n : Nat) (k : Int) : List Int := (List.range n).map fun (j : Nat) => k + j

@[simp] theorem marksI_length (n : Nat) (k : Int) : (marksI n k).length = n := by simp [marksI]
@[simp] theorem marksB_length (n : Nat) (k : Int) : (marksB n k).length = n := by simp [marksB]

@[simp] theorem take_marksI (n : Nat) (k : Int) : (ints (marksI n k)).take n = ints (marksI n k) := by
  have := take_ints_all (marksI n k)
  rwa [marksI_length] at this
@[simp] theorem take_marksB (n : Nat) (k : Int) : (bools (marksB n k)).take n = bools (marksB n k) := by
  have := take_bools_all (marksB n k)
  rwa [marksB_length] at this

end Go.Proofs.Dev
