/- Contracts of the functions of the program over slots and rows, each proved against the program itself; no condition beyond those that each theorem names. -/
import Derived.Test.YtiolbpmhnlmmdaaDoorRows
import Derived.ProofKit
import Derived.Test.YtiolbpmhnlmmdaaDoorAH
import Derived.Test.YtiolbpmhnlmmdaaDoorTie
import Derived.Test.YtiolbpmhnlmmdaaDoorCards
import Derived.SevenTiedAt
import Derived.Test.YtiolbpmhnlmmdaaDoorProg

set_option linter.unusedSimpArgs false
set_option linter.unusedVariables false

namespace Go.Proofs.YtiolbpmhnlmmdaaDoor
theorem fact_mayEnter : Tryd.prog.mayEnter = true := by kernel_rfl
theorem fact_make : Tryd.prog.make = some .cut := by kernel_rfl
theorem fact_liftsFinal : Tryd.prog.liftsFinal = false := by kernel_rfl
end Go.Proofs.YtiolbpmhnlmmdaaDoor

namespace Go.Proofs.YtiolbpmhnlmmdaaDoor
open Go.ChangeShapes Go.WideShapes Go.ChangeAt Go.RowKit Go.Proofs.Dev

theorem own : ownKnob Tryd.prog.godebug = none := by kernel_rfl
theorem laidOut : laidOutB Tryd.prog = true := by kernel_rfl
theorem kDeed : Tryd.prog.cellsOf 23 = 3 := by kernel_rfl
theorem kInt : Tryd.prog.cellsOf 3 = 1 := by kernel_rfl
theorem kStr : Tryd.prog.cellsOf 9 = 1 := by kernel_rfl
theorem gWords : Tryd.prog.globalNamed "loop.example/dominotilings/impl.deedWords" = some 0 := by kernel_rfl
theorem tWords : (Tryd.prog.globals[0]?).map (·.type) = some 62 := by kernel_rfl
theorem rWords : Tryd.prog.readableRec 62 = true ∧ 62 < Tryd.prog.types.size := ⟨by kernel_rfl, of_decide_eq_true (by kernel_rfl)⟩

theorem RL_one {C : Ctx} {a : AV} {v : Value} (h : R C a [] v) : RL C [a] [] [v] := by
  rw [RL]
  exact ⟨[], [], _, _, rfl, rfl, h, by rw [RL]; exact ⟨rfl, rfl⟩⟩

abbrev wordsL : List (List UInt8) := [[108, 97, 121], [108, 105, 102, 116], [102, 108, 105, 112], [102, 111, 114, 99, 101], [98, 97, 99, 107]]

/-- What the words of deeds are. -/
theorem words_of {l : List (String × DataW Unit)} {W : World} (hp : (l.all fun x => x.2.handleName?.isNone) = true) (hm : ("loop.example/dominotilings/impl.deedWords", (Rows.laid_loop_example_dominotilings_impl_deedWords : DataW Unit)) ∈ l) (h : laidMetH Tryd.prog l W) :
    R (gCtx W [] fun _ => False) (.vp 0 [.sl 0 1 (txs wordsL)] 0) [] (.pointer (some ⟨0, 0, none⟩)) := by
  rw [MakeChecks.laidMetH_plain _ _ _ hp] at h
  obtain ⟨ps, h1, _, _⟩ := h
  obtain ⟨g, t, cs, fuel, p, e1, e2, e3, e4⟩ := laid_at h1 hm
  rw [gWords] at e1; cases e1
  rw [tWords] at e2; cases e2
  exact words_view gWords Tryd.underlying62 Tryd.underlying9 kStr e3 e4

theorem gb_of {l : List (String × DataW Unit)} {W : World} (hp : (l.all fun x => x.2.handleName?.isNone) = true) (hm : ("loop.example/dominotilings/impl.deedWords", (Rows.laid_loop_example_dominotilings_impl_deedWords : DataW Unit)) ∈ l) (h : laidMetH Tryd.prog l W) (hg : GP W [] fun _ => False) : GB W [] fun _ => False := by
  refine ⟨?_, hg⟩
  show RL (gCtx W [] fun _ => False) [_] [] [_]
  rw [RL]
  exact ⟨[], [], _, _, rfl, rfl, words_of hp hm h, by rw [RL]; exact ⟨rfl, rfl⟩⟩

end Go.Proofs.YtiolbpmhnlmmdaaDoor

namespace Go.Proofs.Dev

-- 3 parameters, results [.t 6], 15 slots, modes [false, false, false]
@[simp] abbrev n_spec_l1In : Nat := 42

def c_spec_l1In : ACode := .seq (.reg [.o 6 .mv [.kb false]]) <| .seq (.reg [.m 7 0, .m 8 1, .o 9 (.bin .geq 0) [.t 7, .t 8], .m 10 9, .mg 11 0 10 true,
 .mg 12 2 10 true, .g 13 (.bin .leq 0) [.t 11, .t 12] 10 true, .o 14 .pick [.t 10, .t 13, .kb false], .m 6 14]) <| .ret

theorem k_spec_l1In : cFn Tryd.prog n_spec_l1In 15 [.t 6] c_spec_l1In := ⟨Tryd.f42, _, Tryd.func42, rfl, by kernel_rfl, by kernel_rfl, by kernel_rfl, by kernel_rfl⟩

-- 3 parameters, results [.t 6], 15 slots, modes [false, false, false]
@[simp] abbrev n_impl_in : Nat := 46

def c_impl_in : ACode := .seq (.reg [.o 6 .mv [.kb false]]) <| .seq (.reg [.m 7 0, .m 8 1, .o 9 (.bin .geq 0) [.t 7, .t 8], .m 10 9, .mg 11 0 10 true,
 .mg 12 2 10 true, .g 13 (.bin .leq 0) [.t 11, .t 12] 10 true, .o 14 .pick [.t 10, .t 13, .kb false], .m 6 14]) <| .ret

theorem k_impl_in : cFn Tryd.prog n_impl_in 15 [.t 6] c_impl_in := ⟨Tryd.f46, _, Tryd.func46, rfl, by kernel_rfl, by kernel_rfl, by kernel_rfl, by kernel_rfl⟩

end Go.Proofs.Dev

namespace Go.Proofs.Dev

-- 1 parameters, results [.t 2], 34 slots, modes [false]
@[simp] abbrev n_spec_l1Number : Nat := 43

abbrev c_spec_l1Number_p0 : Plan := .take (.o 33 (.bin .add 1) [.t 26, .t 32]) <| .take (.m 2 33) <| .done
def c_spec_l1Number : ACode := .seq (.reg [.o 2 .mv [.c (.v (.string ⟨#[]⟩))]]) <| .seq (.seq (.reg [.m 3 0, .o 4 (.bin .lss 0) [.t 3, .k 0], .m 5 4,
 .mg 6 0 5 true, .mg 7 0 5 true, .g 8 (.un .neg) [.t 7] 5 true, .g 9 (.bin .eql 0) [.t 6, .t 8] 5 true, .o 10 .pick [.t 5, .t 9, .kb false]]) <|
 .cond (.t 10) ( .seq (.reg [.o 2 .mv [.c (.v (.string ⟨#[45, 57, 50, 50, 51, 51, 55, 50, 48, 51, 54, 56, 53, 52, 55, 55, 53, 56, 48, 56]⟩))]]) <|
 .ret) ( .skip)) <| .seq (.seq (.reg [.m 11 0, .o 12 (.bin .lss 0) [.t 11, .k 0]]) <| .cond (.t 12) ( .seq (.reg [.m 13 0, .o 14 (.un .neg) [.t 13],
 .o 15 (.call 43 []) [.t 14], .o 16 (.bin .add 1) [.c (.v (.string ⟨#[45]⟩)), .t 15], .m 2 16]) <| .ret) ( .skip)) <| .seq (.seq (.reg [.m 17 0,
 .o 18 (.bin .lss 0) [.t 17, .k 10]]) <| .cond (.t 18) ( .seq (.reg [.m 19 0, .o 20 (.bin .add 0) [.k 48, .t 19], .o 21 (.conv .u8) [.t 20],
 .o 22 (.bsl 1) [.t 21], .o 23 .str [.t 22], .m 2 23]) <| .ret) ( .skip)) <| .seq (.draw ( .take (.m 24 0) <| .take (.o 25 (.bin .quo 0) [.t 24, .k 10]) <|
 .take (.m 27 0) <| .take (.o 28 (.bin .rem 0) [.t 27, .k 10]) <| .take (.o 29 (.bin .add 0) [.k 48, .t 28]) <| .take (.o 30 (.conv .u8) [.t 29]) <|
 .alt (.o 26 (.call 43 []) [.t 25]) ( .al (.o 31 (.bsl 1) [.t 30]) ( .al (.o 32 .str [.t 31]) c_spec_l1Number_p0)) <| .al (.o 31 (.bsl 1) [.t 30]) ( .alt (.o 26 (.call 43 []) [.t 25]) ( .al (.o 32 .str [.t 31]) c_spec_l1Number_p0) <| .al (.o 32 .str [.t 31]) ( .al (.o 26 (.call 43 []) [.t 25]) c_spec_l1Number_p0)))) <| .ret

theorem k_spec_l1Number : cFn Tryd.prog n_spec_l1Number 34 [.t 2] c_spec_l1Number := ⟨Tryd.f43, _, Tryd.func43, rfl, by kernel_rfl, by kernel_rfl, by kernel_rfl, by kernel_rfl⟩

end Go.Proofs.Dev

namespace Go.Proofs.Dev

-- 1 parameters, results [.t 2], 24 slots, modes [false]
@[simp] abbrev n_spec_l10Named : Nat := 41

def c_spec_l10Named : ACode := .seq (.reg [.o 1 .box [.t 0], .o 2 .mv [.kb false]]) <| .seq (.seq (.reg [.f 3 0 1, .l 4 3]) <|
 .block 0 ( .seq (.reg [.o 6 (.bin .eql 0) [.t 4, .k 0], .m 5 6]) <| .cond (.t 5) ( .seq (.reg [.o 2 .mv [.kb true]]) <|
 .ret) ( .seq (.seq (.reg [.o 8 (.bin .eql 0) [.t 4, .k 1], .m 7 8]) <| .cond (.t 7) ( .skip) ( .reg [.o 9 (.bin .eql 0) [.t 4, .k 2], .m 7 9])) <|
 .cond (.t 7) ( .seq (.reg [.f 10 2 1, .l 11 10, .o 12 (.bin .eql 0) [.t 11, .k 0], .m 2 12]) <| .ret) ( .seq (.seq (.reg [.o 14 (.bin .eql 0) [.t 4, .k 3],
 .m 13 14]) <| .cond (.t 13) ( .skip) ( .reg [.o 15 (.bin .eql 0) [.t 4, .k 4], .m 13 15])) <| .cond (.t 13) ( .seq (.reg [.f 16 2 1, .l 17 16,
 .o 18 (.bin .eql 0) [.t 17, .k 0], .m 19 18, .fg 20 1 1 19 true, .lg 21 20 19 true, .g 22 (.bin .eql 0) [.t 21, .k 0] 19 true, .o 23 .pick [.t 19, .t 22,
 .kb false], .m 2 23]) <| .ret) ( .skip))))) <| .seq (.reg [.o 2 .mv [.kb false]]) <| .ret

theorem k_spec_l10Named : cFn Tryd.prog n_spec_l10Named 24 [.t 2] c_spec_l10Named := ⟨Tryd.f41, _, Tryd.func41, rfl, by kernel_rfl, by kernel_rfl, by kernel_rfl, by kernel_rfl⟩

-- 1 parameters, results [.t 2], 24 slots, modes [false]
@[simp] abbrev n_impl_Deed_needs : Nat := 45

def c_impl_Deed_needs : ACode := .seq (.reg [.o 1 .box [.t 0], .o 2 .mv [.kb false]]) <| .seq (.seq (.reg [.f 3 0 1, .l 4 3]) <|
 .block 0 ( .seq (.reg [.o 6 (.bin .eql 0) [.t 4, .k 0], .m 5 6]) <| .cond (.t 5) ( .seq (.reg [.o 2 .mv [.kb true]]) <|
 .ret) ( .seq (.seq (.reg [.o 8 (.bin .eql 0) [.t 4, .k 1], .m 7 8]) <| .cond (.t 7) ( .skip) ( .reg [.o 9 (.bin .eql 0) [.t 4, .k 2], .m 7 9])) <|
 .cond (.t 7) ( .seq (.reg [.f 10 2 1, .l 11 10, .o 12 (.bin .eql 0) [.t 11, .k 0], .m 2 12]) <| .ret) ( .seq (.seq (.reg [.o 14 (.bin .eql 0) [.t 4, .k 3],
 .m 13 14]) <| .cond (.t 13) ( .skip) ( .reg [.o 15 (.bin .eql 0) [.t 4, .k 4], .m 13 15])) <| .cond (.t 13) ( .seq (.reg [.f 16 1 1, .l 17 16,
 .o 18 (.bin .eql 0) [.t 17, .k 0], .m 19 18, .fg 20 2 1 19 true, .lg 21 20 19 true, .g 22 (.bin .eql 0) [.t 21, .k 0] 19 true, .o 23 .pick [.t 19, .t 22,
 .kb false], .m 2 23]) <| .ret) ( .skip))))) <| .seq (.reg [.o 2 .mv [.kb false]]) <| .ret

theorem k_impl_Deed_needs : cFn Tryd.prog n_impl_Deed_needs 24 [.t 2] c_impl_Deed_needs := ⟨Tryd.f45, _, Tryd.func45, rfl, by kernel_rfl, by kernel_rfl, by kernel_rfl, by kernel_rfl⟩

-- 1 parameters, results [.t 2], 10 slots, modes [false]
@[simp] abbrev n_spec_l10Letter : Nat := 44

def c_spec_l10Letter : ACode := .seq (.reg [.o 2 .mv [.c (.v (.string ⟨#[]⟩))]]) <| .seq (.seq (.reg [.m 3 0, .o 4 (.call 42 []) [.t 3, .k 1, .k 4],
 .o 5 (.un .not) [.t 4]]) <| .cond (.t 5) ( .seq (.reg [.o 2 .mv [.c (.v (.string ⟨#[]⟩))]]) <| .ret) ( .skip)) <|
 .seq (.reg [.o 6 (.bsl 1) [.c (.v (.string ⟨#[]⟩)), .c (.v (.string ⟨#[101]⟩)), .c (.v (.string ⟨#[110]⟩)), .c (.v (.string ⟨#[119]⟩)),
 .c (.v (.string ⟨#[115]⟩))], .m 7 0, .o 8 (.iadr 1) [.t 6, .t 7], .l 9 8, .m 2 9]) <| .ret

theorem k_spec_l10Letter : cFn Tryd.prog n_spec_l10Letter 10 [.t 2] c_spec_l10Letter := ⟨Tryd.f44, _, Tryd.func44, rfl, by kernel_rfl, by kernel_rfl, by kernel_rfl, by kernel_rfl⟩

-- 1 parameters, results [.t 2], 15 slots, modes [false]
@[simp] abbrev n_internalstrconv_small : Nat := 114

def c_internalstrconv_small : ACode := .seq (.reg [.o 2 .mv [.c (.v (.string ⟨#[]⟩))]]) <| .seq (.seq (.reg [.m 3 0, .o 4 (.bin .lss 0) [.t 3, .k 10]]) <|
 .cond (.t 4) ( .seq (.reg [.m 5 0, .m 6 0, .o 7 (.bin .add 0) [.t 6, .k 1], .o 8 (.sslice true true) [.c (.v (.string ⟨#[48, 49, 50, 51, 52, 53, 54, 55, 56, 57,
 97, 98, 99, 100, 101, 102, 103, 104, 105, 106, 107, 108, 109, 110, 111, 112, 113, 114, 115, 116, 117, 118, 119, 120, 121, 122]⟩)), .t 5, .t 7], .m 2 8]) <|
 .ret) ( .skip)) <| .seq (.reg [.m 9 0, .o 10 (.bin .mul 0) [.t 9, .k 2], .m 11 0, .o 12 (.bin .mul 0) [.t 11, .k 2], .o 13 (.bin .add 0) [.t 12, .k 2],
 .o 14 (.sslice true true) [.c (.v (.string ⟨#[48, 48, 48, 49, 48, 50, 48, 51, 48, 52, 48, 53, 48, 54, 48, 55, 48, 56, 48, 57, 49, 48, 49, 49, 49, 50, 49, 51,
 49, 52, 49, 53, 49, 54, 49, 55, 49, 56, 49, 57, 50, 48, 50, 49, 50, 50, 50, 51, 50, 52, 50, 53, 50, 54, 50, 55, 50, 56, 50, 57, 51, 48, 51, 49, 51, 50, 51, 51,
 51, 52, 51, 53, 51, 54, 51, 55, 51, 56, 51, 57, 52, 48, 52, 49, 52, 50, 52, 51, 52, 52, 52, 53, 52, 54, 52, 55, 52, 56, 52, 57, 53, 48, 53, 49, 53, 50, 53, 51,
 53, 52, 53, 53, 53, 54, 53, 55, 53, 56, 53, 57, 54, 48, 54, 49, 54, 50, 54, 51, 54, 52, 54, 53, 54, 54, 54, 55, 54, 56, 54, 57, 55, 48, 55, 49, 55, 50, 55, 51,
 55, 52, 55, 53, 55, 54, 55, 55, 55, 56, 55, 57, 56, 48, 56, 49, 56, 50, 56, 51, 56, 52, 56, 53, 56, 54, 56, 55, 56, 56, 56, 57, 57, 48, 57, 49, 57, 50, 57, 51,
 57, 52, 57, 53, 57, 54, 57, 55, 57, 56, 57, 57]⟩)), .t 10, .t 13], .m 2 14]) <| .ret

theorem k_internalstrconv_small : cFn Tryd.prog n_internalstrconv_small 15 [.t 2] c_internalstrconv_small := ⟨Tryd.f114, _, Tryd.func114, rfl, by kernel_rfl, by kernel_rfl, by kernel_rfl, by kernel_rfl⟩

-- 2 parameters, results [.t 4], 54 slots, modes [false, false]
@[simp] abbrev n_internalstrconv_FormatInt : Nat := 90

def c_internalstrconv_FormatInt : ACode := .seq (.reg [.o 4 .mv [.c (.v (.string ⟨#[]⟩))]]) <| .seq (.seq (.reg [.m 10 1, .o 11 (.bin .eql 0) [.t 10,
 .k 10]]) <| .cond (.t 11) ( .seq (.seq (.reg [.m 12 0, .o 13 (.bin .leq 0) [.k 0, .t 12], .m 14 13, .mg 15 0 14 true, .g 16 (.bin .lss 0) [.t 15,
 .k 100] 14 true, .o 17 .pick [.t 14, .t 16, .kb false]]) <| .cond (.t 17) ( .seq (.reg [.m 18 0, .o 19 (.call 114 []) [.t 18], .m 4 19]) <| .ret) ( .skip)) <|
 .seq (.reg [.o 5 (.alloc [.v (.int .u8 (0)), .v (.int .u8 (0)), .v (.int .u8 (0)), .v (.int .u8 (0)), .v (.int .u8 (0)), .v (.int .u8 (0)), .v (.int .u8 (0)),
 .v (.int .u8 (0)), .v (.int .u8 (0)), .v (.int .u8 (0)), .v (.int .u8 (0)), .v (.int .u8 (0)), .v (.int .u8 (0)), .v (.int .u8 (0)), .v (.int .u8 (0)),
 .v (.int .u8 (0)), .v (.int .u8 (0)), .v (.int .u8 (0)), .v (.int .u8 (0)), .v (.int .u8 (0)), .v (.int .u8 (0)), .v (.int .u8 (0)), .v (.int .u8 (0)),
 .v (.int .u8 (0))]) []]) <| .seq (.reg [.m 20 0, .o 21 (.conv .u64) [.t 20], .m 6 21]) <| .seq (.seq (.reg [.m 22 0, .o 23 (.bin .lss 0) [.t 22, .k 0]]) <|
 .cond (.t 23) ( .reg [.m 24 6, .o 25 (.un .neg) [.t 24], .m 6 25]) ( .skip)) <| .seq (.reg [.m 26 6, .o 27 (.call 115 []) [.t 26], .m 7 27]) <| .seq (.fail) <|
 .seq (.seq (.reg [.m 33 0, .o 34 (.bin .lss 0) [.t 33, .k 0]]) <| .cond (.t 34) ( .seq (.reg [.f 35 0 5, .s (.store 1) [.t 35, .c (.v (.int .u8 (45)))]]) <|
 .seq (.fail) <| .ret) ( .skip)) <| .seq (.fail) <| .ret) ( .skip)) <| .seq (.reg [.m 45 0, .o 46 (.conv .u64) [.t 45], .m 47 1, .m 48 0,
 .o 49 (.bin .lss 0) [.t 48, .k 0], .o 50 (.call 117 []) [.c (.os 1 []), .t 46, .t 47, .t 49, .kb false], .m 44 50, .e 51 0 44, .e 52 1 44, .m 8 51, .m 9 52]) <|
 .seq (.reg [.m 53 9, .m 4 53]) <| .ret

theorem k_internalstrconv_FormatInt : cFn Tryd.prog n_internalstrconv_FormatInt 54 [.t 4] c_internalstrconv_FormatInt := ⟨Tryd.f90, _, Tryd.func90, rfl, by kernel_rfl, by kernel_rfl, by kernel_rfl, by kernel_rfl⟩

-- 1 parameters, results [.t 2], 5 slots, modes [false]
@[simp] abbrev n_internalstrconv_Itoa : Nat := 74

def c_internalstrconv_Itoa : ACode := .seq (.reg [.o 2 .mv [.c (.v (.string ⟨#[]⟩))]]) <| .seq (.reg [.m 3 0, .o 4 (.call 90 []) [.t 3, .k 10], .m 2 4]) <|
 .ret

theorem k_internalstrconv_Itoa : cFn Tryd.prog n_internalstrconv_Itoa 5 [.t 2] c_internalstrconv_Itoa := ⟨Tryd.f74, _, Tryd.func74, rfl, by kernel_rfl, by kernel_rfl, by kernel_rfl, by kernel_rfl⟩

-- 1 parameters, results [.t 2], 5 slots, modes [false]
@[simp] abbrev n_strconv_Itoa : Nat := 47

def c_strconv_Itoa : ACode := .seq (.reg [.o 2 .mv [.c (.v (.string ⟨#[]⟩))]]) <| .seq (.reg [.m 3 0, .o 4 (.call 74 []) [.t 3], .m 2 4]) <| .ret

theorem k_strconv_Itoa : cFn Tryd.prog n_strconv_Itoa 5 [.t 2] c_strconv_Itoa := ⟨Tryd.f47, _, Tryd.func47, rfl, by kernel_rfl, by kernel_rfl, by kernel_rfl, by kernel_rfl⟩

-- 1 parameters, results [.t 2], 46 slots, modes [false]
@[simp] abbrev n_spec_DeedText : Nat := 10

def c_spec_DeedText : ACode := .seq (.reg [.o 1 .box [.t 0], .o 2 .mv [.c (.v (.string ⟨#[]⟩))]]) <| .seq (.seq (.reg [.la 4 3 1, .o 5 (.call 41 []) [.t 4],
 .o 6 (.un .not) [.t 5], .m 7 6, .fg 8 1 1 7 false, .lg 9 8 7 false, .g 10 (.call 42 []) [.t 9, .k 0, .k 99] 7 false, .g 11 (.un .not) [.t 10] 7 false,
 .o 12 .pick [.t 7, .kb true, .t 11]]) <| .cond (.t 12) ( .seq (.reg [.o 2 .mv [.c (.v (.string ⟨#[]⟩))]]) <| .ret) ( .skip)) <|
 .seq (.reg [.o 13 (.bsl 1) [.c (.v (.string ⟨#[108, 97, 121]⟩)), .c (.v (.string ⟨#[108, 105, 102, 116]⟩)), .c (.v (.string ⟨#[102, 108, 105, 112]⟩)),
 .c (.v (.string ⟨#[102, 111, 114, 99, 101]⟩)), .c (.v (.string ⟨#[98, 97, 99, 107]⟩))], .f 14 0 1, .l 15 14, .o 16 (.iadr 1) [.t 13, .t 15], .l 17 16,
 .m 3 17]) <| .seq (.seq (.reg [.f 18 0 1, .l 19 18, .o 20 (.bin .leq 0) [.t 19, .k 2]]) <| .cond (.t 20) ( .reg [.m 21 3, .o 22 (.bin .add 1) [.t 21,
 .c (.v (.string ⟨#[32]⟩))], .f 23 1 1, .l 24 23, .o 25 (.call 43 []) [.t 24], .o 26 (.bin .add 1) [.t 22, .t 25], .m 3 26]) ( .skip)) <|
 .seq (.seq (.reg [.f 27 0 1, .l 28 27, .o 29 (.bin .eql 0) [.t 28, .k 0], .m 30 29, .fg 31 2 1 30 true, .lg 32 31 30 true, .g 33 (.call 44 []) [.t 32] 30 true,
 .g 34 (.bin .eql 1) [.t 33, .c (.v (.string ⟨#[]⟩))] 30 true, .o 35 .pick [.t 30, .t 34, .kb false]]) <|
 .cond (.t 35) ( .seq (.reg [.o 2 .mv [.c (.v (.string ⟨#[]⟩))]]) <| .ret) ( .skip)) <| .seq (.seq (.reg [.f 36 0 1, .l 37 36, .o 38 (.bin .eql 0) [.t 37,
 .k 0]]) <| .cond (.t 38) ( .reg [.m 39 3, .o 40 (.bin .add 1) [.t 39, .c (.v (.string ⟨#[32]⟩))], .f 41 2 1, .l 42 41, .o 43 (.call 44 []) [.t 42],
 .o 44 (.bin .add 1) [.t 40, .t 43], .m 3 44]) ( .skip)) <| .seq (.reg [.m 45 3, .m 2 45]) <| .ret

theorem k_spec_DeedText : cFn Tryd.prog n_spec_DeedText 46 [.t 2] c_spec_DeedText := ⟨Tryd.f10, _, Tryd.func10, rfl, by kernel_rfl, by kernel_rfl, by kernel_rfl, by kernel_rfl⟩

-- 1 parameters, results [.t 2], 51 slots, modes [false]
@[simp] abbrev n_impl_DeedText : Nat := 12

def c_impl_DeedText : ACode := .seq (.reg [.o 1 .box [.t 0], .o 2 .mv [.c (.v (.string ⟨#[]⟩))]]) <| .seq (.seq (.reg [.la 4 3 1, .o 5 (.call 45 []) [.t 4],
 .o 6 (.un .not) [.t 5], .m 7 6, .fg 8 1 1 7 false, .lg 9 8 7 false, .g 10 (.call 46 []) [.t 9, .k 0, .k 99] 7 false, .g 11 (.un .not) [.t 10] 7 false,
 .o 12 .pick [.t 7, .kb true, .t 11], .m 13 12, .fg 14 0 1 13 false, .lg 15 14 13 false, .g 16 (.bin .eql 0) [.t 15, .k 0] 13 false, .mg 17 16 13 false,
 .fg 18 2 1 17 true, .lg 19 18 17 true, .g 20 (.call 46 []) [.t 19, .k 1, .k 4] 17 true, .g 21 (.un .not) [.t 20] 17 true, .g 22 .pick [.t 17, .t 21,
 .kb false] 13 false, .o 23 .pick [.t 13, .kb true, .t 22]]) <| .cond (.t 23) ( .seq (.reg [.o 2 .mv [.c (.v (.string ⟨#[]⟩))]]) <| .ret) ( .skip)) <|
 .seq (.reg [.o 24 (.load false 1) [.c (.vp 0 [.sl 0 1 [.v (.string ⟨#[108, 97, 121]⟩), .v (.string ⟨#[108, 105, 102, 116]⟩), .v (.string ⟨#[102, 108, 105,
 112]⟩), .v (.string ⟨#[102, 111, 114, 99, 101]⟩), .v (.string ⟨#[98, 97, 99, 107]⟩)]] 0)], .f 25 0 1, .l 26 25, .o 27 (.iadr 1) [.t 24, .t 26], .l 28 27,
 .m 3 28]) <| .seq (.seq (.reg [.f 29 0 1, .l 30 29, .o 31 (.bin .leq 0) [.t 30, .k 2]]) <| .cond (.t 31) ( .reg [.m 32 3, .f 33 1 1, .l 34 33,
 .o 35 (.call 47 []) [.t 34], .o 36 (.bin .add 1) [.c (.v (.string ⟨#[32]⟩)), .t 35], .o 37 (.bin .add 1) [.t 32, .t 36], .m 3 37]) ( .skip)) <|
 .seq (.seq (.reg [.f 38 0 1, .l 39 38, .o 40 (.bin .eql 0) [.t 39, .k 0]]) <| .cond (.t 40) ( .reg [.m 41 3, .f 42 2 1, .l 43 42, .f 44 2 1, .l 45 44,
 .o 46 (.bin .add 0) [.t 45, .k 1], .o 47 (.sslice true true) [.c (.v (.string ⟨#[35, 101, 110, 119, 115]⟩)), .t 43, .t 46],
 .o 48 (.bin .add 1) [.c (.v (.string ⟨#[32]⟩)), .t 47], .o 49 (.bin .add 1) [.t 41, .t 48], .m 3 49]) ( .skip)) <| .seq (.reg [.m 50 3, .m 2 50]) <| .ret

theorem k_impl_DeedText : cFn Tryd.prog n_impl_DeedText 51 [.t 2] c_impl_DeedText := ⟨Tryd.f12, _, Tryd.func12, rfl, by kernel_rfl, by kernel_rfl, by kernel_rfl, by kernel_rfl⟩

-- 1 parameters, results [.c 2 true 3], 14 slots, modes [false]
@[simp] abbrev n_laws_toDeed : Nat := 11

def c_laws_toDeed : ACode := .seq (.reg [.o 1 .box [.t 0], .o 2 (.alloc dz) []]) <| .seq (.reg [.o 3 (.alloc dz) []]) <| .seq (.reg [.f 4 0 1, .l 5 4, .f 6 0 3,
 .s (.store 1) [.t 6, .t 5]]) <| .seq (.reg [.f 7 1 1, .l 8 7, .f 9 1 3, .s (.store 1) [.t 9, .t 8]]) <| .seq (.reg [.f 10 2 1, .l 11 10, .f 12 2 3,
 .s (.store 1) [.t 12, .t 11]]) <| .seq (.reg [.la 13 3 3, .s (.store 3) [.t 2, .t 13]]) <| .ret

theorem k_laws_toDeed : cFn Tryd.prog n_laws_toDeed 14 [.c 2 true 3] c_laws_toDeed := ⟨Tryd.f11, _, Tryd.func11, rfl, by kernel_rfl, by kernel_rfl, by kernel_rfl, by kernel_rfl⟩

end Go.Proofs.Dev

namespace Go.Proofs.Dev

-- 2 parameters, results [.t 4], 20 slots, modes [false, false]
@[simp] abbrev n_laws_eqDeed : Nat := 28

def c_laws_eqDeed : ACode := .seq (.reg [.o 2 .box [.t 0], .o 3 .box [.t 1], .o 4 .mv [.kb false]]) <| .seq (.seq (.reg [.f 5 0 2, .l 6 5, .f 7 0 3, .l 8 7,
 .o 9 (.bin .neq 0) [.t 6, .t 8]]) <| .cond (.t 9) ( .seq (.reg [.o 4 .mv [.kb false]]) <| .ret) ( .skip)) <| .seq (.seq (.reg [.f 10 1 2, .l 11 10, .f 12 1 3,
 .l 13 12, .o 14 (.bin .neq 0) [.t 11, .t 13]]) <| .cond (.t 14) ( .seq (.reg [.o 4 .mv [.kb false]]) <| .ret) ( .skip)) <| .seq (.seq (.reg [.f 15 2 2,
 .l 16 15, .f 17 2 3, .l 18 17, .o 19 (.bin .neq 0) [.t 16, .t 18]]) <| .cond (.t 19) ( .seq (.reg [.o 4 .mv [.kb false]]) <| .ret) ( .skip)) <|
 .seq (.reg [.o 4 .mv [.kb true]]) <| .ret

theorem k_laws_eqDeed : cFn Tryd.prog n_laws_eqDeed 20 [.t 4] c_laws_eqDeed := ⟨Tryd.f28, _, Tryd.func28, rfl, by kernel_rfl, by kernel_rfl, by kernel_rfl, by kernel_rfl⟩

end Go.Proofs.Dev

namespace Go.Proofs.Dev

-- 2 parameters, results [.t 4], 27 slots, modes [false, false]
@[simp] abbrev n_laws_eqDeedS : Nat := 17
abbrev c_laws_eqDeedS_L0_p0 : Plan := .al (.o 25 (.call 28 []) [.t 20, .t 24]) ( .take (.o 26 (.un .not) [.t 25]) <| .done)
def c_laws_eqDeedS_L0 : ACode := .seq (.seq (.reg [.m 11 5, .m 12 0, .n 13 12, .o 14 (.bin .lss 0) [.t 11, .t 13]]) <| .cond (.t 14) ( .skip) ( .exit 0)) <|
 .seq (.block 1 ( .seq (.draw ( .take (.m 17 0) <| .take (.m 18 5) <| .take (.o 19 (.iadr 3) [.t 17, .t 18]) <| .take (.m 21 1) <| .take (.m 22 5) <|
 .take (.o 23 (.iadr 3) [.t 21, .t 22]) <| .alt (.la 20 3 19) ( .al (.la 24 3 23) c_laws_eqDeedS_L0_p0) <| .al (.la 24 3 23) ( .al (.la 20 3 19) c_laws_eqDeedS_L0_p0))) <| .cond (.t 26) ( .seq (.reg [.o 4 .mv [.kb false]]) <| .ret) ( .skip))) <| .reg [.m 15 5,
 .o 16 (.bin .add 0) [.t 15, .k 1], .m 5 16]

def c_laws_eqDeedS : ACode := .seq (.reg [.o 4 .mv [.kb false]]) <| .seq (.seq (.reg [.m 6 0, .n 7 6, .m 8 1, .n 9 8, .o 10 (.bin .neq 0) [.t 7, .t 9]]) <|
 .cond (.t 10) ( .seq (.reg [.o 4 .mv [.kb false]]) <| .ret) ( .skip)) <| .seq (.seq (.reg [.o 5 .mv [.k 0]]) <| .block 0 ( .loop [(0, 3), (1, 3)] [0, 1,
 5] c_laws_eqDeedS_L0)) <| .seq (.reg [.o 4 .mv [.kb true]]) <| .ret

theorem k_laws_eqDeedS : cFn Tryd.prog n_laws_eqDeedS 27 [.t 4] c_laws_eqDeedS := ⟨Tryd.f17, _, Tryd.func17, rfl, by kernel_rfl, by kernel_rfl, by kernel_rfl, by kernel_rfl⟩

-- 2 parameters, results [.t 4], 34 slots, modes [true, false]
@[simp] abbrev n_laws_markDeedS : Nat := 31
-- 1 parameters, results [.t 2], 9 slots, modes [true]
@[simp] abbrev n_slices_Clip_impl_Deed_impl_Deed : Nat := 62

end Go.Proofs.Dev
