/- Contracts of the functions of the program over slots and rows, each proved against the program itself; no condition beyond those that each theorem names. -/
import Derived.Test.YtfkmfobbgoflgaaGreatDoorRows
import Derived.ProofKit
import Derived.Test.YtfkmfobbgoflgaaGreatDoorAH
import Derived.Test.YtfkmfobbgoflgaaGreatDoorTie
import Derived.Test.YtfkmfobbgoflgaaGreatDoorCards
import Derived.SevenTiedAt
import Derived.ChangeMaps5
import Derived.Test.YtfkmfobbgoflgaaGreatDoorProg
set_option linter.unusedSimpArgs false
set_option linter.unusedVariables false
set_option maxRecDepth 100000
namespace Go.Proofs.YtfkmfobbgoflgaaGreatDoor
theorem Vi : Tryz.prog.mayEnter = true := by kernel_rfl
theorem bF : Tryz.prog.make = some .cut := by kernel_rfl
theorem Sf : Tryz.prog.liftsFinal = false := by kernel_rfl
open Go.ChangeShapes Go.WideShapes Go.ChangeAt Go.RowKit Go.Proofs.Dev
theorem own : ownKnob Tryz.prog.godebug = none := by kernel_rfl
theorem gj : laidOutB Tryz.prog = true := by kernel_rfl
theorem mq : Tryz.prog.cellsOf 9 = 1 := by kernel_rfl
theorem bG : Tryz.prog.globalNamed "loop.example/dominotilings/impl.deedWords" = some 0 := by kernel_rfl
theorem fC : (Tryz.prog.globals[0]?).map (·.type) = some 58 := by kernel_rfl
theorem kC : Tryz.prog.readableRec 58 = true ∧ 58 < Tryz.prog.types.size := ⟨by kernel_rfl, of_decide_eq_true (by kernel_rfl)⟩
abbrev kD : List (List UInt8) := [[108, 97, 121], [108, 105, 102, 116], [102, 108, 105, 112], [102, 111, 114, 99, 101], [98, 97, 99, 107]]
theorem dY {l : List (String × DataW Unit)} {W : World} (hp : (l.all fun x => x.2.handleName?.isNone) = true) (hm : ("loop.example/dominotilings/impl.deedWords", (Rows.laid_loop_example_dominotilings_impl_deedWords : DataW Unit)) ∈ l) (h : laidMetH Tryz.prog l W) :
  R (Yg W [] fun _ => False) (.vp 0 [.sl 0 1 (txs kD)] 0) [] (.pointer (some ⟨0, 0, none⟩)) := by
 rw [MakeChecks.laidMetH_plain _ _ _ hp] at h
 obtain ⟨ps, h1, _, _⟩ := h
 obtain ⟨g, t, cs, fuel, p, e1, e2, e3, e4⟩ := X6 h1 hm
 rw [bG] at e1; cases e1
 rw [fC] at e2; cases e2
 exact Zh bG Tryz.underlying58 Tryz.underlying9 mq e3 e4
theorem mB {l : List (String × DataW Unit)} {W : World} (hp : (l.all fun x => x.2.handleName?.isNone) = true) (hm : ("loop.example/dominotilings/impl.deedWords", (Rows.laid_loop_example_dominotilings_impl_deedWords : DataW Unit)) ∈ l) (h : laidMetH Tryz.prog l W) (hg : GP W [] fun _ => False) : GB W [] fun _ => False := by
 refine ⟨?_, hg⟩
 show RL (Yg W [] fun _ => False) [_] [] [_]
 rw [RL]
 exact ⟨[], [], _, _, rfl, rfl, dY hp hm h, by rw [RL]; exact ⟨rfl, rfl⟩⟩
theorem mr : Tryz.prog.globalNamed "strconv.ErrSyntax" = some 2 := by kernel_rfl
theorem mt : Tryz.prog.globalNamed "strconv.ErrRange" = some 3 := by kernel_rfl
theorem mu : (Tryz.prog.globals[2]?).map (·.type) = some 76 := by kernel_rfl
theorem mw : (Tryz.prog.globals[3]?).map (·.type) = some 76 := by kernel_rfl
theorem mC {l : List (String × DataW Unit)} {W : World} (hp : (l.all fun x => x.2.handleName?.isNone) = true) (hm2 : ("strconv.ErrSyntax", (Rows.laid_strconv_ErrSyntax : DataW Unit)) ∈ l) (hm3 : ("strconv.ErrRange", (Rows.laid_strconv_ErrRange : DataW Unit)) ∈ l)
  (hsh : W.ShapedOpen Tryz.prog) (h : laidMetH Tryz.prog l W) : GP W [] fun _ => False := by
 rw [MakeChecks.laidMetH_plain _ _ _ hp] at h
 obtain ⟨ps, h1, _, _⟩ := h
 intro p hpm
 simp only [gps, List.mem_cons, List.not_mem_nil, or_false] at hpm
 refine ⟨⟨by simp, by simp⟩, ?_⟩
 rcases hpm with rfl | rfl | rfl
 ·obtain ⟨m, hm⟩ := cell_of_shapedOpen_int (g := 1) (zero := #[.int .i64 0]) (t := 3) hsh (of_decide_eq_true (by kernel_rfl)) (by kernel_rfl) rfl (by kernel_rfl) (by kernel_rfl) Tryz.underlying3
  exact ⟨_, hm, m, rfl⟩
 ·exact Y3 h1 hm2 mr mu Tryz.underlying76
 ·exact Y3 h1 hm3 mt mw Tryz.underlying76
end Go.Proofs.YtfkmfobbgoflgaaGreatDoor
namespace Go.Proofs.Dev
@[simp] abbrev NE : Nat := 139
def NF : ACode := .seq (.reg [.o 4 .mv [.k 0]]) <| .seq (.reg [.m 5 1, .m 6 0, .n 7 6, .o 8 (.bin .sub 0) [.t 5, .t 7], .m 1 8]) <| .seq (.seq (.reg [.m 9 1, .o 10 (.bin .lss 0) [.t 9, .k 0]]) <| .cond (.t 10) ( .seq (.reg [.o 4 .mv [.k (-1)]]) <| .ret) ( .skip)) <| .seq (.reg [.m 11 1, .m 4 11]) <| .ret
theorem UB : cFn Tryz.prog NE 12 [.t 4] NF := ⟨Tryz.f139, _, Tryz.func139, rfl, by kernel_rfl, by kernel_rfl, by kernel_rfl, by kernel_rfl⟩
@[simp] abbrev Lk : Nat := 69
def Ll : ACode := .seq (.reg [.o 2 .box [.t 0], .o 4 .mv [.k 0]]) <| .seq (.reg [.f 5 2 2, .l 6 5, .m 7 1, .o 8 (.call 139 []) [.t 6, .t 7], .m 1 8]) <| .seq (.seq (.reg [.m 9 1, .o 10 (.bin .lss 0) [.t 9, .k 0]]) <| .cond (.t 10) ( .seq (.reg [.o 4 .mv [.k (-1)]]) <| .ret) ( .skip)) <| .seq (.reg [.m 11 1, .m 4 11]) <| .ret
theorem Sg : cFn Tryz.prog Lk 12 [.t 4] Ll := ⟨Tryz.f69, _, Tryz.func69, rfl, by kernel_rfl, by kernel_rfl, by kernel_rfl, by kernel_rfl⟩
@[simp] abbrev NG : Nat := 150
def Jr : ACode := .seq (.seq (.reg [.m 8 4, .m 9 0, .n 10 9, .o 11 (.bin .lss 0) [.t 8, .t 10]]) <| .cond (.t 11) ( .skip) ( .exit 0)) <| .seq (.block 1 ( .reg [.m 14 3, .m 15 4, .m 16 0, .m 17 4, .o 18 (.iadr 1) [.t 16, .t 17], .l 19 18, .o 20 (.iadr 1) [.t 14, .t 15], .s (.store 1) [.t 20, .t 19]])) <| .reg [.m 12 4, .o 13 (.bin .add 0) [.t 12, .k 1], .m 4 13]
def NH : ACode := .seq (.reg [.o 2 .mv [.c (.os 1 [])]]) <| .seq (.reg [.m 5 0, .n 6 5, .o 7 (.mksl 1 1 (.v (.bool false))) [.t 6, .t 6], .m 3 7]) <| .seq (.seq (.reg [.o 4 .mv [.k 0]]) <| .block 0 ( .loop [(0, 1), (3, 1)] [0, 3, 4] Jr)) <| .seq (.reg [.m 21 3, .m 2 21]) <| .ret
theorem UC : cFn Tryz.prog NG 22 [.t 2] NH := ⟨Tryz.f150, _, Tryz.func150, rfl, by kernel_rfl, by kernel_rfl, by kernel_rfl, by kernel_rfl⟩
@[simp] abbrev Om : Nat := 84
def Ku : ACode := .seq (.seq (.reg [.m 8 4, .m 9 0, .n 10 9, .o 11 (.bin .lss 0) [.t 8, .t 10]]) <| .cond (.t 11) ( .skip) ( .exit 0)) <| .seq (.block 1 ( .reg [.m 14 3, .m 15 4, .m 16 0, .m 17 4, .o 18 (.iadr 1) [.t 16, .t 17], .l 19 18, .o 20 (.iadr 1) [.t 14, .t 15], .s (.store 1) [.t 20, .t 19]])) <| .reg [.m 12 4, .o 13 (.bin .add 0) [.t 12, .k 1], .m 4 13]
def On : ACode := .seq (.reg [.o 2 .mv [.c (.os 1 [])]]) <| .seq (.reg [.m 5 0, .n 6 5, .o 7 (.mksl 1 8 (.v (.int .i64 (0)))) [.t 6, .t 6], .m 3 7]) <| .seq (.seq (.reg [.o 4 .mv [.k 0]]) <| .block 0 ( .loop [(0, 1), (3, 1)] [0, 3, 4] Ku)) <| .seq (.reg [.m 21 3, .m 2 21]) <| .ret
theorem Vj : cFn Tryz.prog Om 22 [.t 2] On := ⟨Tryz.f84, _, Tryz.func84, rfl, by kernel_rfl, by kernel_rfl, by kernel_rfl, by kernel_rfl⟩
@[simp] abbrev Lm : Nat := 83
def Ln : ACode := .seq (.reg [.o 1 .box [.t 0], .o 2 (.alloc rz) []]) <| .seq (.reg [.o 3 (.alloc rz) []]) <| .seq (.reg [.f 4 0 1, .l 5 4, .f 6 0 3, .s (.store 1) [.t 6, .t 5]]) <| .seq (.reg [.f 7 1 1, .l 8 7, .f 9 1 3, .s (.store 1) [.t 9, .t 8]]) <| .seq (.reg [.f 10 2 1, .l 11 10, .o 12 (.call 150 []) [.t 11], .f 13 2 3, .s (.store 1) [.t 13, .t 12]]) <| .seq (.reg [.la 14 3 3, .s (.store 3) [.t 2, .t 14]]) <| .ret
theorem Sh : cFn Tryz.prog Lm 15 [.c 2 true 3] Ln := ⟨Tryz.f83, _, Tryz.func83, rfl, by kernel_rfl, by kernel_rfl, by kernel_rfl, by kernel_rfl⟩
@[simp] abbrev NI : Nat := 151
def Js : ACode := .seq (.seq (.reg [.m 11 5, .m 12 0, .n 13 12, .o 14 (.bin .lss 0) [.t 11, .t 13]]) <| .cond (.t 14) ( .skip) ( .exit 0)) <| .seq (.block 1 ( .seq (.draw ( .take (.m 17 0) <| .take (.m 18 5) <| .take (.o 19 (.iadr 1) [.t 17, .t 18]) <| .take (.m 21 1) <| .take (.m 22 5) <| .take (.o 23 (.iadr 1) [.t 21, .t 22]) <| .alt (.l 20 19) ( .al (.l 24 23) ( .take (.o 25 (.bin .neq 2) [.t 20, .t 24]) <| .done)) <| .al (.l 24 23) ( .al (.l 20 19) ( .take (.o 25 (.bin .neq 2) [.t 20, .t 24]) <| .done)))) <| .cond (.t 25) ( .seq (.reg [.o 4 .mv [.kb false]]) <| .ret) ( .skip))) <| .reg [.m 15 5, .o 16 (.bin .add 0) [.t 15, .k 1], .m 5 16]
def NJ : ACode := .seq (.reg [.o 4 .mv [.kb false]]) <| .seq (.seq (.reg [.m 6 0, .n 7 6, .m 8 1, .n 9 8, .o 10 (.bin .neq 0) [.t 7, .t 9]]) <| .cond (.t 10) ( .seq (.reg [.o 4 .mv [.kb false]]) <| .ret) ( .skip)) <| .seq (.seq (.reg [.o 5 .mv [.k 0]]) <| .block 0 ( .loop [(0, 1), (1, 1)] [0, 1, 5] Js)) <| .seq (.reg [.o 4 .mv [.kb true]]) <| .ret
theorem UD : cFn Tryz.prog NI 26 [.t 4] NJ := ⟨Tryz.f151, _, Tryz.func151, rfl, by kernel_rfl, by kernel_rfl, by kernel_rfl, by kernel_rfl⟩
@[simp] abbrev Oo : Nat := 87
def Kv : ACode := .seq (.seq (.reg [.m 11 5, .m 12 0, .n 13 12, .o 14 (.bin .lss 0) [.t 11, .t 13]]) <| .cond (.t 14) ( .skip) ( .exit 0)) <| .seq (.block 1 ( .seq (.draw ( .take (.m 17 0) <| .take (.m 18 5) <| .take (.o 19 (.iadr 1) [.t 17, .t 18]) <| .take (.m 21 1) <| .take (.m 22 5) <| .take (.o 23 (.iadr 1) [.t 21, .t 22]) <| .alt (.l 20 19) ( .al (.l 24 23) ( .take (.o 25 (.bin .neq 0) [.t 20, .t 24]) <| .done)) <| .al (.l 24 23) ( .al (.l 20 19) ( .take (.o 25 (.bin .neq 0) [.t 20, .t 24]) <| .done)))) <| .cond (.t 25) ( .seq (.reg [.o 4 .mv [.kb false]]) <| .ret) ( .skip))) <| .reg [.m 15 5, .o 16 (.bin .add 0) [.t 15, .k 1], .m 5 16]
def Oq : ACode := .seq (.reg [.o 4 .mv [.kb false]]) <| .seq (.seq (.reg [.m 6 0, .n 7 6, .m 8 1, .n 9 8, .o 10 (.bin .neq 0) [.t 7, .t 9]]) <| .cond (.t 10) ( .seq (.reg [.o 4 .mv [.kb false]]) <| .ret) ( .skip)) <| .seq (.seq (.reg [.o 5 .mv [.k 0]]) <| .block 0 ( .loop [(0, 1), (1, 1)] [0, 1, 5] Kv)) <| .seq (.reg [.o 4 .mv [.kb true]]) <| .ret
theorem Vk : cFn Tryz.prog Oo 26 [.t 4] Oq := ⟨Tryz.f87, _, Tryz.func87, rfl, by kernel_rfl, by kernel_rfl, by kernel_rfl, by kernel_rfl⟩
@[simp] abbrev Lo : Nat := 86
def Lp : ACode := .seq (.reg [.o 2 .box [.t 0], .o 3 .box [.t 1], .o 4 .mv [.kb false]]) <| .seq (.seq (.reg [.f 5 0 2, .l 6 5, .f 7 0 3, .l 8 7, .o 9 (.bin .neq 0) [.t 6, .t 8]]) <| .cond (.t 9) ( .seq (.reg [.o 4 .mv [.kb false]]) <| .ret) ( .skip)) <| .seq (.seq (.reg [.f 10 1 2, .l 11 10, .f 12 1 3, .l 13 12, .o 14 (.bin .neq 0) [.t 11, .t 13]]) <| .cond (.t 14) ( .seq (.reg [.o 4 .mv [.kb false]]) <| .ret) ( .skip)) <| .seq (.seq (.reg [.f 15 2 2, .l 16 15, .f 17 2 3, .l 18 17, .o 19 (.call 151 []) [.t 16, .t 18], .o 20 (.un .not) [.t 19]]) <| .cond (.t 20) ( .seq (.reg [.o 4 .mv [.kb false]]) <| .ret) ( .skip)) <| .seq (.reg [.o 4 .mv [.kb true]]) <| .ret
theorem Si : cFn Tryz.prog Lo 21 [.t 4] Lp := ⟨Tryz.f86, _, Tryz.func86, rfl, by kernel_rfl, by kernel_rfl, by kernel_rfl, by kernel_rfl⟩
@[simp] abbrev Kw : Nat := 152
def HY : ACode := .seq (.seq (.reg [.m 6 5, .m 7 0, .n 8 7, .o 9 (.bin .lss 0) [.t 6, .t 8]]) <| .cond (.t 9) ( .skip) ( .exit 0)) <| .seq (.block 1 ( .seq (.reg [.m 12 0, .m 13 5, .m 14 1, .o 15 (.bin .rem 0) [.t 14, .k 3], .o 16 (.bin .eql 0) [.t 15, .k 0], .o 17 (.iadr 1) [.t 12, .t 13], .s (.store 1) [.t 17, .t 16]]) <| .reg [.m 18 1, .o 19 (.bin .add 0) [.t 18, .k 1], .m 1 19])) <| .reg [.m 10 5, .o 11 (.bin .add 0) [.t 10, .k 1], .m 5 11]
def Kx : ACode := .seq (.reg [.o 4 .mv [.k 0]]) <| .seq (.seq (.reg [.o 5 .mv [.k 0]]) <| .block 0 ( .loop [(0, 1)] [0, 1, 5, 21] HY)) <| .seq (.reg [.m 20 1, .m 4 20]) <| .ret
theorem RR : cFn Tryz.prog Kw 21 [.t 4] Kx := ⟨Tryz.f152, _, Tryz.func152, rfl, by kernel_rfl, by kernel_rfl, by kernel_rfl, by kernel_rfl⟩
@[simp] abbrev HZ : Nat := 90
def FG : ACode := .seq (.seq (.reg [.m 6 5, .m 7 0, .n 8 7, .o 9 (.bin .lss 0) [.t 6, .t 8]]) <| .cond (.t 9) ( .skip) ( .exit 0)) <| .seq (.block 1 ( .seq (.reg [.m 12 0, .m 13 5, .m 14 1, .o 15 (.iadr 1) [.t 12, .t 13], .s (.store 1) [.t 15, .t 14]]) <| .reg [.m 16 1, .o 17 (.bin .add 0) [.t 16, .k 1], .m 1 17])) <| .reg [.m 10 5, .o 11 (.bin .add 0) [.t 10, .k 1], .m 5 11]
def Ha : ACode := .seq (.reg [.o 4 .mv [.k 0]]) <| .seq (.seq (.reg [.o 5 .mv [.k 0]]) <| .block 0 ( .loop [(0, 1)] [0, 1, 5, 19] FG)) <| .seq (.reg [.m 18 1, .m 4 18]) <| .ret
theorem Lq : cFn Tryz.prog HZ 19 [.t 4] Ha := ⟨Tryz.f90, _, Tryz.func90, rfl, by kernel_rfl, by kernel_rfl, by kernel_rfl, by kernel_rfl⟩
@[simp] abbrev Jt : Nat := 89
def Ju : ACode := .seq (.reg [.o 2 .box [.t 0], .o 4 .mv [.k 0]]) <| .seq (.reg [.f 5 2 2, .l 6 5, .m 7 1, .o 8 (.call 152 []) [.t 6, .t 7], .m 1 8]) <| .seq (.reg [.m 9 1, .m 4 9]) <| .ret
theorem QU : cFn Tryz.prog Jt 10 [.t 4] Ju := ⟨Tryz.f89, _, Tryz.func89, rfl, by kernel_rfl, by kernel_rfl, by kernel_rfl, by kernel_rfl⟩
@[simp] abbrev Hb : Nat := 93
def FH : ACode := .seq (.seq (.reg [.m 6 5, .m 7 0, .n 8 7, .o 9 (.bin .lss 0) [.t 6, .t 8]]) <| .cond (.t 9) ( .skip) ( .exit 0)) <| .seq (.block 1 ( .seq (.seq (.reg [.m 12 0, .m 13 5, .o 14 (.iadr 1) [.t 12, .t 13], .l 15 14, .m 16 1, .o 17 (.bin .neq 0) [.t 15, .t 16]]) <| .cond (.t 17) ( .seq (.reg [.o 4 .mv [.k (-1)]]) <| .ret) ( .skip)) <| .reg [.m 18 1, .o 19 (.bin .add 0) [.t 18, .k 1], .m 1 19])) <| .reg [.m 10 5, .o 11 (.bin .add 0) [.t 10, .k 1], .m 5 11]
def Hc : ACode := .seq (.reg [.o 4 .mv [.k 0]]) <| .seq (.seq (.reg [.o 5 .mv [.k 0]]) <| .block 0 ( .loop [(0, 1)] [0, 1, 5] FH)) <| .seq (.reg [.m 20 1, .m 4 20]) <| .ret
theorem Lr : cFn Tryz.prog Hb 21 [.t 4] Hc := ⟨Tryz.f93, _, Tryz.func93, rfl, by kernel_rfl, by kernel_rfl, by kernel_rfl, by kernel_rfl⟩
@[simp] abbrev Kb : Nat := 106
def Sj : ACode := .seq (.reg [.o 6 .mv [.kb false]]) <| .seq (.reg [.m 7 0, .m 8 1, .o 9 (.bin .geq 0) [.t 7, .t 8], .m 10 9, .mg 11 0 10 true, .mg 12 2 10 true, .g 13 (.bin .leq 0) [.t 11, .t 12] 10 true, .o 14 .pick [.t 10, .t 13, .kb false], .m 6 14]) <| .ret
theorem YD : cFn Tryz.prog Kb 15 [.t 6] Sj := ⟨Tryz.f106, _, Tryz.func106, rfl, by kernel_rfl, by kernel_rfl, by kernel_rfl, by kernel_rfl⟩
@[simp] abbrev NK : Nat := 203
def Jv : ACode := .seq (.seq (.reg [.m 5 4, .m 6 0, .n 7 6, .o 8 (.bin .lss 0) [.t 5, .t 7]]) <| .cond (.t 8) ( .skip) ( .exit 0)) <| .seq (.block 1 ( .seq (.reg [.m 11 0, .m 12 4, .o 13 (.iadr 1) [.t 11, .t 12], .l 14 13]) <| .cond (.t 14) ( .reg [.m 15 3, .o 16 (.bin .add 0) [.t 15, .k 1], .m 3 16]) ( .skip))) <| .reg [.m 9 4, .o 10 (.bin .add 0) [.t 9, .k 1], .m 4 10]
def NL : ACode := .seq (.reg [.o 2 .mv [.k 0]]) <| .seq (.reg [.o 3 .mv [.k 0]]) <| .seq (.seq (.reg [.o 4 .mv [.k 0]]) <| .block 0 ( .loop [(0, 1)] [0, 3, 4] Jv)) <| .seq (.reg [.m 17 3, .m 2 17]) <| .ret
theorem UE : cFn Tryz.prog NK 18 [.t 2] NL := ⟨Tryz.f203, _, Tryz.func203, rfl, by kernel_rfl, by kernel_rfl, by kernel_rfl, by kernel_rfl⟩
@[simp] abbrev Ik : Nat := 168
def Il : ACode := .seq (.reg [.o 1 .box [.t 0], .o 2 .mv [.kb false]]) <| .seq (.reg [.f 3 0 1, .l 4 3, .o 5 (.call 106 []) [.t 4, .k 1, .k 6], .m 6 5, .fg 7 1 1 6 true, .lg 8 7 6 true, .g 9 (.call 106 []) [.t 8, .k 1, .k 6] 6 true, .o 10 .pick [.t 6, .t 9, .kb false], .m 11 10, .fg 12 2 1 11 true, .lg 13 12 11 true, .g 14 (.len false) [.t 13] 11 true, .fg 15 0 1 11 true, .lg 16 15 11 true, .fg 17 1 1 11 true, .lg 18 17 11 true, .g 19 (.bin .mul 0) [.t 16, .t 18] 11 true, .g 20 (.bin .eql 0) [.t 14, .t 19] 11 true, .o 21 .pick [.t 11, .t 20, .kb false], .m 22 21, .fg 23 2 1 22 true, .lg 24 23 22 true, .g 25 (.call 203 []) [.t 24] 22 true, .g 26 (.bin .leq 0) [.t 25, .k 24] 22 true, .o 27 .pick [.t 22, .t 26, .kb false], .m 2 27]) <| .ret
theorem Ot : cFn Tryz.prog Ik 28 [.t 2] Il := ⟨Tryz.f168, _, Tryz.func168, rfl, by kernel_rfl, by kernel_rfl, by kernel_rfl, by kernel_rfl⟩
@[simp] abbrev Im : Nat := 121
def CL : ACode := .seq (.seq (.reg [.m 17 5, .m 18 1, .n 19 18, .o 20 (.bin .lss 0) [.t 17, .t 19]]) <| .cond (.t 20) ( .skip) ( .exit 0)) <| .seq (.block 1 ( .seq (.reg [.f 23 2 2, .l 24 23, .m 25 5, .o 26 (.iadr 1) [.t 24, .t 25], .l 27 26, .m 28 27, .mg 29 1 28 true, .mg 30 5 28 true, .g 31 (.iadr 1) [.t 29, .t 30] 28 true, .lg 32 31 28 true, .g 33 (.call 106 []) [.t 32, .k 0, .k 6] 28 true, .g 34 (.un .not) [.t 33] 28 true, .o 35 .pick [.t 28, .t 34, .kb false], .m 36 35, .fg 37 2 2 36 false, .lg 38 37 36 false, .mg 39 5 36 false, .g 40 (.iadr 1) [.t 38, .t 39] 36 false, .lg 41 40 36 false, .g 42 (.un .not) [.t 41] 36 false, .mg 43 42 36 false, .mg 44 1 43 true, .mg 45 5 43 true, .g 46 (.iadr 1) [.t 44, .t 45] 43 true, .lg 47 46 43 true, .g 48 (.bin .neq 0) [.t 47, .k (-1)] 43 true, .g 49 .pick [.t 43, .t 48, .kb false] 36 false, .o 50 .pick [.t 36, .kb true, .t 49]]) <| .cond (.t 50) ( .seq (.reg [.o 4 .mv [.kb false]]) <| .ret) ( .skip))) <| .reg [.m 21 5, .o 22 (.bin .add 0) [.t 21, .k 1], .m 5 22]
def Ip : ACode := .seq (.reg [.o 2 .box [.t 0], .o 4 .mv [.kb false]]) <| .seq (.seq (.reg [.la 6 3 2, .o 7 (.call 168 []) [.t 6], .o 8 (.un .not) [.t 7], .m 9 8, .mg 10 1 9 false, .g 11 (.len false) [.t 10] 9 false, .fg 12 2 2 9 false, .lg 13 12 9 false, .g 14 (.len false) [.t 13] 9 false, .g 15 (.bin .neq 0) [.t 11, .t 14] 9 false, .o 16 .pick [.t 9, .kb true, .t 15]]) <| .cond (.t 16) ( .seq (.reg [.o 4 .mv [.kb false]]) <| .ret) ( .skip)) <| .seq (.seq (.reg [.o 5 .mv [.k 0]]) <| .block 0 ( .loop [(1, 1)] [1, 2, 5] CL)) <| .seq (.reg [.o 4 .mv [.kb true]]) <| .ret
theorem Ou : cFn Tryz.prog Im 51 [.t 4] Ip := ⟨Tryz.f121, _, Tryz.func121, rfl, by kernel_rfl, by kernel_rfl, by kernel_rfl, by kernel_rfl⟩
@[simp] abbrev HC : Nat := 169
def EB : ACode := .seq (.reg [.o 3 .box [.t 0], .o 6 .mv [.k 0]]) <| .seq (.block 0 ( .seq (.draw ( .take (.m 8 2) <| .take (.o 9 (.bin .eql 0) [.t 8, .k 1]) <| .take (.m 10 9) <| .take (.mg 11 1 10 true) <| .take (.fg 12 0 3 10 true) <| .take (.fg 15 0 3 10 true) <| .alt (.lg 13 12 10 true) ( .take (.g 14 (.bin .rem 0) [.t 11, .t 13] 10 true) <| .al (.lg 16 15 10 true) ( .take (.g 17 (.bin .sub 0) [.t 16, .k 1] 10 true) <| .take (.g 18 (.bin .lss 0) [.t 14, .t 17] 10 true) <| .take (.o 19 .pick [.t 10, .t 18, .kb false]) <| .take (.m 7 19) <| .done)) <| .al (.lg 16 15 10 true) ( .take (.g 17 (.bin .sub 0) [.t 16, .k 1] 10 true) <| .al (.lg 13 12 10 true) ( .take (.g 14 (.bin .rem 0) [.t 11, .t 13] 10 true) <| .take (.g 18 (.bin .lss 0) [.t 14, .t 17] 10 true) <| .take (.o 19 .pick [.t 10, .t 18, .kb false]) <| .take (.m 7 19) <| .done)))) <| .cond (.t 7) ( .seq (.reg [.m 20 1, .o 21 (.bin .add 0) [.t 20, .k 1], .m 6 21]) <| .ret) ( .seq (.draw ( .take (.m 23 2) <| .take (.o 24 (.bin .eql 0) [.t 23, .k 2]) <| .take (.m 25 24) <| .take (.mg 26 1 25 true) <| .take (.fg 27 0 3 25 true) <| .take (.fg 30 1 3 25 true) <| .alt (.lg 28 27 25 true) ( .take (.g 29 (.bin .quo 0) [.t 26, .t 28] 25 true) <| .al (.lg 31 30 25 true) ( .take (.g 32 (.bin .sub 0) [.t 31, .k 1] 25 true) <| .take (.g 33 (.bin .lss 0) [.t 29, .t 32] 25 true) <| .take (.o 34 .pick [.t 25, .t 33, .kb false]) <| .take (.m 22 34) <| .done)) <| .al (.lg 31 30 25 true) ( .take (.g 32 (.bin .sub 0) [.t 31, .k 1] 25 true) <| .al (.lg 28 27 25 true) ( .take (.g 29 (.bin .quo 0) [.t 26, .t 28] 25 true) <| .take (.g 33 (.bin .lss 0) [.t 29, .t 32] 25 true) <| .take (.o 34 .pick [.t 25, .t 33, .kb false]) <| .take (.m 22 34) <| .done)))) <| .cond (.t 22) ( .seq (.reg [.m 35 1, .f 36 0 3, .l 37 36, .o 38 (.bin .add 0) [.t 35, .t 37], .m 6 38]) <| .ret) ( .seq (.reg [.m 40 2, .o 41 (.bin .eql 0) [.t 40, .k 3], .m 42 41, .mg 43 1 42 true, .fg 44 0 3 42 true, .lg 45 44 42 true, .g 46 (.bin .rem 0) [.t 43, .t 45] 42 true, .g 47 (.bin .gtr 0) [.t 46, .k 0] 42 true, .o 48 .pick [.t 42, .t 47, .kb false], .m 39 48]) <| .cond (.t 39) ( .seq (.reg [.m 49 1, .o 50 (.bin .sub 0) [.t 49, .k 1], .m 6 50]) <| .ret) ( .seq (.reg [.m 52 2, .o 53 (.bin .eql 0) [.t 52, .k 4], .m 54 53, .mg 55 1 54 true, .fg 56 0 3 54 true, .lg 57 56 54 true, .g 58 (.bin .quo 0) [.t 55, .t 57] 54 true, .g 59 (.bin .gtr 0) [.t 58, .k 0] 54 true, .o 60 .pick [.t 54, .t 59, .kb false], .m 51 60]) <| .cond (.t 51) ( .seq (.reg [.m 61 1, .f 62 0 3, .l 63 62, .o 64 (.bin .sub 0) [.t 61, .t 63], .m 6 64]) <| .ret) ( .skip)))))) <| .seq (.reg [.o 6 .mv [.k (-1)]]) <| .ret
theorem Vl : cFn Tryz.prog HC 65 [.t 6] EB := ⟨Tryz.f169, _, Tryz.func169, rfl, by kernel_rfl, by kernel_rfl, by kernel_rfl, by kernel_rfl⟩
@[simp] abbrev Ov : Nat := 170
def Ow : ACode := .seq (.reg [.o 2 .mv [.k 0]]) <| .seq (.reg [.m 3 0, .o 4 (.bin .add 0) [.t 3, .k 1], .o 5 (.bin .rem 0) [.t 4, .k 4], .o 6 (.bin .add 0) [.t 5, .k 1], .m 2 6]) <| .ret
theorem Vm : cFn Tryz.prog Ov 7 [.t 2] Ow := ⟨Tryz.f170, _, Tryz.func170, rfl, by kernel_rfl, by kernel_rfl, by kernel_rfl, by kernel_rfl⟩
@[simp] abbrev Ox : Nat := 122
abbrev Hd : Plan := .take (.g 70 (.bin .neq 0) [.t 64, .t 69] 60 false) <| .take (.o 71 .pick [.t 60, .kb true, .t 70]) <| .done
abbrev He : Plan := .al (.o 49 (.call 169 []) [.t 43, .t 44, .t 48]) ( .take (.m 6 49) <| .done)
abbrev Hf : Plan := .al (.g 69 (.call 170 []) [.t 68] 60 false) Hd
def CG : ACode := .seq (.seq (.reg [.m 18 5, .m 19 1, .n 20 19, .o 21 (.bin .lss 0) [.t 18, .t 20]]) <| .cond (.t 21) ( .skip) ( .exit 0)) <| .seq (.block 1 ( .seq (.seq (.reg [.m 24 1, .m 25 5, .o 26 (.iadr 1) [.t 24, .t 25], .l 27 26, .o 28 (.bin .eql 0) [.t 27, .k 0]]) <| .cond (.t 28) ( .exit 1) ( .skip)) <| .seq (.seq (.reg [.m 29 1, .m 30 5, .o 31 (.iadr 1) [.t 29, .t 30], .l 32 31, .o 33 (.call 106 []) [.t 32, .k 1, .k 4], .o 34 (.un .not) [.t 33], .m 35 34, .fg 36 2 2 35 false, .lg 37 36 35 false, .mg 38 5 35 false, .g 39 (.iadr 1) [.t 37, .t 38] 35 false, .lg 40 39 35 false, .g 41 (.un .not) [.t 40] 35 false, .o 42 .pick [.t 35, .kb true, .t 41]]) <| .cond (.t 42) ( .seq (.reg [.o 4 .mv [.kb false]]) <| .ret) ( .skip)) <| .seq (.draw ( .take (.m 44 5) <| .take (.m 45 1) <| .take (.m 46 5) <| .take (.o 47 (.iadr 1) [.t 45, .t 46]) <| .alt (.la 43 3 2) ( .al (.l 48 47) He) <| .al (.l 48 47) ( .al (.la 43 3 2) He))) <| .seq (.draw ( .take (.m 50 6) <| .take (.o 51 (.bin .lss 0) [.t 50, .k 0]) <| .take (.m 52 51) <| .take (.fg 53 2 2 52 false) <| .take (.mg 55 6 52 false) <| .al (.lg 54 53 52 false) ( .take (.g 56 (.iadr 1) [.t 54, .t 55] 52 false) <| .al (.lg 57 56 52 false) ( .take (.g 58 (.un .not) [.t 57] 52 false) <| .take (.o 59 .pick [.t 52, .kb true, .t 58]) <| .take (.m 60 59) <| .take (.mg 61 1 60 false) <| .take (.mg 62 6 60 false) <| .take (.g 63 (.iadr 1) [.t 61, .t 62] 60 false) <| .take (.mg 65 1 60 false) <| .take (.mg 66 5 60 false) <| .take (.g 67 (.iadr 1) [.t 65, .t 66] 60 false) <| .alt (.lg 64 63 60 false) ( .al (.lg 68 67 60 false) Hf) <| .al (.lg 68 67 60 false) ( .alt (.lg 64 63 60 false) Hf <| .al (.g 69 (.call 170 []) [.t 68] 60 false) ( .al (.lg 64 63 60 false) Hd)))))) <| .cond (.t 71) ( .seq (.reg [.o 4 .mv [.kb false]]) <| .ret) ( .skip))) <| .reg [.m 22 5, .o 23 (.bin .add 0) [.t 22, .k 1], .m 5 23]
def Oy : ACode := .seq (.reg [.o 2 .box [.t 0], .o 4 .mv [.kb false]]) <| .seq (.seq (.reg [.la 7 3 2, .o 8 (.call 168 []) [.t 7], .o 9 (.un .not) [.t 8], .m 10 9, .mg 11 1 10 false, .g 12 (.len false) [.t 11] 10 false, .fg 13 2 2 10 false, .lg 14 13 10 false, .g 15 (.len false) [.t 14] 10 false, .g 16 (.bin .neq 0) [.t 12, .t 15] 10 false, .o 17 .pick [.t 10, .kb true, .t 16]]) <| .cond (.t 17) ( .seq (.reg [.o 4 .mv [.kb false]]) <| .ret) ( .skip)) <| .seq (.seq (.reg [.o 5 .mv [.k 0]]) <| .block 0 ( .loop [(1, 1)] [1, 2, 5] CG)) <| .seq (.reg [.o 4 .mv [.kb true]]) <| .ret
theorem Vn : cFn Tryz.prog Ox 72 [.t 4] Oy := ⟨Tryz.f122, _, Tryz.func122, rfl, by kernel_rfl, by kernel_rfl, by kernel_rfl, by kernel_rfl⟩
@[simp] abbrev Oz : Nat := 172
def O0 : ACode := .seq (.reg [.o 4 .mv [.k 0]]) <| .seq (.seq (.reg [.m 5 0, .o 6 (.call 106 []) [.t 5, .k 0, .k 6], .o 7 (.un .not) [.t 6], .m 8 7, .mg 9 1 8 false, .g 10 (.call 106 []) [.t 9, .k 0, .k 6] 8 false, .g 11 (.un .not) [.t 10] 8 false, .o 12 .pick [.t 8, .kb true, .t 11]]) <| .cond (.t 12) ( .seq (.reg [.o 4 .mv [.k (-1)]]) <| .ret) ( .skip)) <| .seq (.reg [.m 13 0, .m 14 1, .o 15 (.mnx true) [.t 13, .t 14], .o 16 (.bin .mul 0) [.k 7, .t 15], .m 17 0, .m 18 1, .o 19 (.mnx false) [.t 17, .t 18], .o 20 (.bin .add 0) [.t 16, .t 19], .m 4 20]) <| .ret
theorem Vo : cFn Tryz.prog Oz 21 [.t 4] O0 := ⟨Tryz.f172, _, Tryz.func172, rfl, by kernel_rfl, by kernel_rfl, by kernel_rfl, by kernel_rfl⟩
@[simp] abbrev NM : Nat := 124
abbrev EO : Plan := .al (.o 53 (.call 172 []) [.t 42, .t 52]) ( .al (.o 54 (.bsl 1) [.t 53]) ( .al (.o 55 (.app 1 8 true) [.t 38, .t 54]) ( .take (.m 7 55) <| .done)))
abbrev Bo : Plan := .al (.o 50 (.call 169 []) [.t 44, .t 45, .t 49]) ( .take (.o 51 (.iadr 1) [.t 43, .t 50]) <| .al (.l 52 51) EO)
abbrev Gx : Plan := .alt (.l 42 41) Bo <| .al (.o 50 (.call 169 []) [.t 44, .t 45, .t 49]) ( .take (.o 51 (.iadr 1) [.t 43, .t 50]) <| .alt (.l 42 41) ( .al (.l 52 51) EO) <| .al (.l 52 51) ( .al (.l 42 41) EO))
def F7 : ACode := .seq (.seq (.reg [.m 10 8, .m 11 2, .n 12 11, .o 13 (.bin .lss 0) [.t 10, .t 12], .m 14 13, .g 15 (.load true 3) [.t 3] 14 true, .mg 16 1 14 true, .g 17 (.call 121 []) [.t 15, .t 16] 14 true, .o 18 .pick [.t 14, .t 17, .kb false], .m 19 18, .g 20 (.load true 3) [.t 3] 19 true, .mg 21 2 19 true, .g 22 (.call 122 []) [.t 20, .t 21] 19 true, .o 23 .pick [.t 19, .t 22, .kb false]]) <| .cond (.t 23) ( .skip) ( .exit 0)) <| .seq (.block 1 ( .seq (.reg [.m 26 2, .m 27 8, .o 28 (.iadr 1) [.t 26, .t 27], .l 29 28, .o 30 (.bin .eql 0) [.t 29, .k 1], .m 31 30, .mg 32 2 31 false, .mg 33 8 31 false, .g 34 (.iadr 1) [.t 32, .t 33] 31 false, .lg 35 34 31 false, .g 36 (.bin .eql 0) [.t 35, .k 2] 31 false, .o 37 .pick [.t 31, .kb true, .t 36]]) <| .cond (.t 37) ( .draw ( .take (.m 38 7) <| .take (.m 39 1) <| .take (.m 40 8) <| .take (.o 41 (.iadr 1) [.t 39, .t 40]) <| .take (.m 43 1) <| .take (.m 45 8) <| .take (.m 46 2) <| .take (.m 47 8) <| .take (.o 48 (.iadr 1) [.t 46, .t 47]) <| .alt (.l 42 41) ( .alt (.la 44 3 3) ( .al (.l 49 48) Bo) <| .al (.l 49 48) ( .al (.la 44 3 3) Bo)) <| .alt (.la 44 3 3) ( .alt (.l 42 41) ( .al (.l 49 48) Bo) <| .al (.l 49 48) Gx) <| .al (.l 49 48) ( .alt (.l 42 41) ( .al (.la 44 3 3) Bo) <| .al (.la 44 3 3) Gx))) ( .skip))) <| .reg [.m 24 8, .o 25 (.bin .add 0) [.t 24, .k 1], .m 8 25]
def NN : ACode := .seq (.reg [.o 3 .box [.t 0], .o 6 .mv [.c (.os 1 [])]]) <| .seq (.reg [.o 9 (.bsl 1) [], .m 7 9]) <| .seq (.seq (.reg [.o 8 .mv [.k 0]]) <| .block 0 ( .loop [(1, 1), (2, 1), (7, 1)] [1, 2, 3, 7, 8] F7)) <| .seq (.reg [.m 56 7, .m 6 56]) <| .ret
theorem UF : cFn Tryz.prog NM 57 [.t 6] NN := ⟨Tryz.f124, _, Tryz.func124, rfl, by kernel_rfl, by kernel_rfl, by kernel_rfl, by kernel_rfl⟩
@[simp] abbrev O1 : Nat := 63
def XI : ACode := .seq (.reg [.o 6 .mv [.kb false]]) <| .seq (.reg [.m 7 0, .m 8 1, .o 9 (.bin .geq 0) [.t 7, .t 8], .m 10 9, .mg 11 0 10 true, .mg 12 2 10 true, .g 13 (.bin .leq 0) [.t 11, .t 12] 10 true, .o 14 .pick [.t 10, .t 13, .kb false], .m 6 14]) <| .ret
theorem bH : cFn Tryz.prog O1 15 [.t 6] XI := ⟨Tryz.f63, _, Tryz.func63, rfl, by kernel_rfl, by kernel_rfl, by kernel_rfl, by kernel_rfl⟩
@[simp] abbrev Sk : Nat := 109
def NO : ACode := .seq (.reg [.o 9 (.bin .lss 0) [.t 8, .t 7]]) <| .seq (.cond (.t 9) ( .skip) ( .exit 0)) <| .seq (.block 1 ( .seq (.reg [.o 10 (.iadr 1) [.t 6, .t 8], .l 11 10, .m 5 11]) <| .seq (.reg [.m 12 5]) <| .cond (.t 12) ( .reg [.m 13 3, .o 14 (.bin .add 0) [.t 13, .k 1], .m 3 14]) ( .skip))) <| .reg [.o 15 (.bin .add 0) [.t 8, .k 1], .m 8 15]
def Sl : ACode := .seq (.reg [.o 2 .mv [.k 0]]) <| .seq (.reg [.o 3 .mv [.k 0]]) <| .seq (.seq (.reg [.m 6 0, .n 7 6, .o 8 .mv [.k 0]]) <| .block 0 ( .loop [(6, 1)] [3, 6, 7, 8] NO)) <| .seq (.reg [.m 16 3, .m 2 16]) <| .ret
theorem YE : cFn Tryz.prog Sk 17 [.t 2] Sl := ⟨Tryz.f109, _, Tryz.func109, rfl, by kernel_rfl, by kernel_rfl, by kernel_rfl, by kernel_rfl⟩
@[simp] abbrev Iq : Nat := 108
def Ir : ACode := .seq (.reg [.o 1 .box [.t 0], .o 2 .mv [.kb false]]) <| .seq (.reg [.f 3 0 1, .l 4 3, .o 5 (.call 63 []) [.t 4, .k 1, .k 6], .m 6 5, .fg 7 1 1 6 true, .lg 8 7 6 true, .g 9 (.call 63 []) [.t 8, .k 1, .k 6] 6 true, .o 10 .pick [.t 6, .t 9, .kb false], .m 11 10, .fg 12 2 1 11 true, .lg 13 12 11 true, .g 14 (.len false) [.t 13] 11 true, .fg 15 0 1 11 true, .lg 16 15 11 true, .fg 17 1 1 11 true, .lg 18 17 11 true, .g 19 (.bin .mul 0) [.t 16, .t 18] 11 true, .g 20 (.bin .eql 0) [.t 14, .t 19] 11 true, .o 21 .pick [.t 11, .t 20, .kb false], .m 22 21, .fg 23 2 1 22 true, .lg 24 23 22 true, .g 25 (.call 109 []) [.t 24] 22 true, .g 26 (.bin .leq 0) [.t 25, .k 24] 22 true, .o 27 .pick [.t 22, .t 26, .kb false], .m 2 27]) <| .ret
theorem O2 : cFn Tryz.prog Iq 28 [.t 2] Ir := ⟨Tryz.f108, _, Tryz.func108, rfl, by kernel_rfl, by kernel_rfl, by kernel_rfl, by kernel_rfl⟩
@[simp] abbrev O3 : Nat := 156
def Ek : ACode := .seq (.reg [.o 16 (.bin .lss 0) [.t 15, .t 14]]) <| .seq (.cond (.t 16) ( .skip) ( .exit 0)) <| .seq (.block 1 ( .seq (.reg [.m 17 15, .o 18 (.iadr 1) [.t 13, .t 15], .l 19 18, .m 5 17, .m 6 19]) <| .seq (.reg [.f 20 2 2, .l 21 20, .m 22 5, .o 23 (.iadr 1) [.t 21, .t 22], .l 24 23, .m 25 24, .mg 26 6 25 true, .g 27 (.call 63 []) [.t 26, .k 0, .k 6] 25 true, .g 28 (.un .not) [.t 27] 25 true, .o 29 .pick [.t 25, .t 28, .kb false], .m 30 29, .fg 31 2 2 30 false, .lg 32 31 30 false, .mg 33 5 30 false, .g 34 (.iadr 1) [.t 32, .t 33] 30 false, .lg 35 34 30 false, .g 36 (.un .not) [.t 35] 30 false, .mg 37 36 30 false, .mg 38 6 37 true, .g 39 (.bin .neq 0) [.t 38, .k (-1)] 37 true, .g 40 .pick [.t 37, .t 39, .kb false] 30 false, .o 41 .pick [.t 30, .kb true, .t 40]]) <| .cond (.t 41) ( .seq (.reg [.o 4 .mv [.kb false]]) <| .ret) ( .skip))) <| .reg [.o 42 (.bin .add 0) [.t 15, .k 1], .m 15 42]
def O4 : ACode := .seq (.reg [.o 2 .box [.t 0], .o 4 .mv [.kb false]]) <| .seq (.seq (.reg [.m 7 1, .n 8 7, .f 9 2 2, .l 10 9, .n 11 10, .o 12 (.bin .neq 0) [.t 8, .t 11]]) <| .cond (.t 12) ( .seq (.reg [.o 4 .mv [.kb false]]) <| .ret) ( .skip)) <| .seq (.seq (.reg [.m 13 1, .n 14 13, .o 15 .mv [.k 0]]) <| .block 0 ( .loop [(13, 1)] [2, 13, 14, 15] Ek)) <| .seq (.reg [.o 4 .mv [.kb true]]) <| .ret
theorem Vp : cFn Tryz.prog O3 43 [.t 4] O4 := ⟨Tryz.f156, _, Tryz.func156, rfl, by kernel_rfl, by kernel_rfl, by kernel_rfl, by kernel_rfl⟩
@[simp] abbrev It : Nat := 102
def Iu : ACode := .seq (.reg [.o 2 .box [.t 0], .o 4 .mv [.kb false]]) <| .seq (.reg [.la 5 3 2, .o 6 (.call 108 []) [.t 5], .m 7 6, .g 8 (.load true 3) [.t 2] 7 true, .mg 9 1 7 true, .g 10 (.call 156 []) [.t 8, .t 9] 7 true, .o 11 .pick [.t 7, .t 10, .kb false], .m 4 11]) <| .ret
theorem O5 : cFn Tryz.prog It 12 [.t 4] Iu := ⟨Tryz.f102, _, Tryz.func102, rfl, by kernel_rfl, by kernel_rfl, by kernel_rfl, by kernel_rfl⟩
@[simp] abbrev Ky : Nat := 245
def Kz : ACode := .seq (.reg [.o 2 .box [.t 0], .o 4 .mv [.k 0], .o 5 .mv [.k 0]]) <| .seq (.draw ( .take (.m 6 1) <| .take (.f 7 0 2) <| .take (.m 10 1) <| .take (.f 11 0 2) <| .alt (.l 8 7) ( .take (.o 9 (.bin .rem 0) [.t 6, .t 8]) <| .take (.m 4 9) <| .al (.l 12 11) ( .take (.o 13 (.bin .quo 0) [.t 10, .t 12]) <| .take (.m 5 13) <| .done)) <| .al (.l 12 11) ( .take (.o 13 (.bin .quo 0) [.t 10, .t 12]) <| .al (.l 8 7) ( .take (.o 9 (.bin .rem 0) [.t 6, .t 8]) <| .take (.m 4 9) <| .take (.m 5 13) <| .done)))) <| .ret
theorem RS : cFn Tryz.prog Ky 14 [.t 4, .t 5] Kz := ⟨Tryz.f245, _, Tryz.func245, rfl, by kernel_rfl, by kernel_rfl, by kernel_rfl, by kernel_rfl⟩
@[simp] abbrev Da : Nat := 205
def Iv : ACode := .seq (.reg [.o 3 .box [.t 0], .o 6 .mv [.k 0]]) <| .seq (.reg [.la 10 3 3, .m 11 1, .o 12 (.call 245 []) [.t 10, .t 11], .m 9 12, .e 13 0 9, .e 14 1 9, .m 7 13, .m 8 14]) <| .seq (.seq (.reg [.m 15 2]) <| .block 0 ( .seq (.reg [.o 17 (.bin .eql 0) [.t 15, .k 1], .m 16 17]) <| .cond (.t 16) ( .reg [.m 18 7, .o 19 (.bin .add 0) [.t 18, .k 1], .m 7 19]) ( .seq (.reg [.o 21 (.bin .eql 0) [.t 15, .k 2], .m 20 21]) <| .cond (.t 20) ( .reg [.m 22 8, .o 23 (.bin .add 0) [.t 22, .k 1], .m 8 23]) ( .seq (.reg [.o 25 (.bin .eql 0) [.t 15, .k 3], .m 24 25]) <| .cond (.t 24) ( .reg [.m 26 7, .o 27 (.bin .sub 0) [.t 26, .k 1], .m 7 27]) ( .seq (.reg [.o 29 (.bin .eql 0) [.t 15, .k 4], .m 28 29]) <| .cond (.t 28) ( .reg [.m 30 8, .o 31 (.bin .sub 0) [.t 30, .k 1], .m 8 31]) ( .seq (.reg [.o 6 .mv [.k (-1)]]) <| .ret)))))) <| .seq (.seq (.reg [.m 32 7, .f 33 0 3, .l 34 33, .o 35 (.bin .sub 0) [.t 34, .k 1], .o 36 (.call 63 []) [.t 32, .k 0, .t 35], .o 37 (.un .not) [.t 36], .m 38 37, .mg 39 8 38 false, .fg 40 1 3 38 false, .lg 41 40 38 false, .g 42 (.bin .sub 0) [.t 41, .k 1] 38 false, .g 43 (.call 63 []) [.t 39, .k 0, .t 42] 38 false, .g 44 (.un .not) [.t 43] 38 false, .o 45 .pick [.t 38, .kb true, .t 44]]) <| .cond (.t 45) ( .seq (.reg [.o 6 .mv [.k (-1)]]) <| .ret) ( .skip)) <| .seq (.reg [.m 46 8, .f 47 0 3, .l 48 47, .o 49 (.bin .mul 0) [.t 46, .t 48], .m 50 7, .o 51 (.bin .add 0) [.t 49, .t 50], .m 6 51]) <| .ret
theorem O6 : cFn Tryz.prog Da 52 [.t 6] Iv := ⟨Tryz.f205, _, Tryz.func205, rfl, by kernel_rfl, by kernel_rfl, by kernel_rfl, by kernel_rfl⟩
@[simp] abbrev Sm : Nat := 206
def So : ACode := .seq (.reg [.o 2 .mv [.k 0]]) <| .seq (.reg [.m 3 0, .o 4 (.bin .add 0) [.t 3, .k 1], .o 5 (.bin .rem 0) [.t 4, .k 4], .o 6 (.bin .add 0) [.t 5, .k 1], .m 2 6]) <| .ret
theorem YF : cFn Tryz.prog Sm 7 [.t 2] So := ⟨Tryz.f206, _, Tryz.func206, rfl, by kernel_rfl, by kernel_rfl, by kernel_rfl, by kernel_rfl⟩
@[simp] abbrev Iw : Nat := 154
abbrev Ey : Plan := .take (.g 52 (.bin .neq 0) [.t 49, .t 51] 45 false) <| .take (.o 53 .pick [.t 45, .kb true, .t 52]) <| .done
def CM : ACode := .seq (.reg [.o 17 (.bin .lss 0) [.t 16, .t 15]]) <| .seq (.cond (.t 17) ( .skip) ( .exit 0)) <| .seq (.block 1 ( .seq (.reg [.m 18 16, .o 19 (.iadr 1) [.t 14, .t 16], .l 20 19, .m 5 18, .m 6 20]) <| .seq (.seq (.reg [.m 21 6, .o 22 (.bin .eql 0) [.t 21, .k 0]]) <| .cond (.t 22) ( .exit 1) ( .skip)) <| .seq (.reg [.la 23 3 2, .m 24 5, .m 25 6, .o 26 (.call 205 []) [.t 23, .t 24, .t 25], .m 7 26]) <| .seq (.draw ( .take (.m 27 7) <| .take (.o 28 (.bin .lss 0) [.t 27, .k 0]) <| .take (.m 29 28) <| .take (.fg 30 2 2 29 false) <| .take (.mg 32 5 29 false) <| .al (.lg 31 30 29 false) ( .take (.g 33 (.iadr 1) [.t 31, .t 32] 29 false) <| .al (.lg 34 33 29 false) ( .take (.g 35 (.un .not) [.t 34] 29 false) <| .take (.o 36 .pick [.t 29, .kb true, .t 35]) <| .take (.m 37 36) <| .take (.fg 38 2 2 37 false) <| .take (.mg 40 7 37 false) <| .al (.lg 39 38 37 false) ( .take (.g 41 (.iadr 1) [.t 39, .t 40] 37 false) <| .al (.lg 42 41 37 false) ( .take (.g 43 (.un .not) [.t 42] 37 false) <| .take (.o 44 .pick [.t 37, .kb true, .t 43]) <| .take (.m 45 44) <| .take (.mg 46 1 45 false) <| .take (.mg 47 7 45 false) <| .take (.g 48 (.iadr 1) [.t 46, .t 47] 45 false) <| .take (.mg 50 6 45 false) <| .alt (.lg 49 48 45 false) ( .al (.g 51 (.call 206 []) [.t 50] 45 false) Ey) <| .al (.g 51 (.call 206 []) [.t 50] 45 false) ( .al (.lg 49 48 45 false) Ey))))))) <| .cond (.t 53) ( .seq (.reg [.o 4 .mv [.kb false]]) <| .ret) ( .skip))) <| .reg [.o 54 (.bin .add 0) [.t 16, .k 1], .m 16 54]
def Ix : ACode := .seq (.reg [.o 2 .box [.t 0], .o 4 .mv [.kb false]]) <| .seq (.seq (.reg [.m 8 1, .n 9 8, .f 10 2 2, .l 11 10, .n 12 11, .o 13 (.bin .neq 0) [.t 9, .t 12]]) <| .cond (.t 13) ( .seq (.reg [.o 4 .mv [.kb false]]) <| .ret) ( .skip)) <| .seq (.seq (.reg [.m 14 1, .n 15 14, .o 16 .mv [.k 0]]) <| .block 0 ( .loop [(1, 1), (14, 1)] [1, 2, 14, 15, 16] CM)) <| .seq (.reg [.o 4 .mv [.kb true]]) <| .ret
theorem O7 : cFn Tryz.prog Iw 55 [.t 4] Ix := ⟨Tryz.f154, _, Tryz.func154, rfl, by kernel_rfl, by kernel_rfl, by kernel_rfl, by kernel_rfl⟩
@[simp] abbrev Sp : Nat := 240
def Sq : ACode := .seq (.reg [.o 4 .mv [.k 0]]) <| .seq (.reg [.m 5 0, .m 6 1, .o 7 (.mnx true) [.t 5, .t 6], .o 8 (.bin .mul 0) [.k 7, .t 7], .m 9 0, .m 10 1, .o 11 (.mnx false) [.t 9, .t 10], .o 12 (.bin .add 0) [.t 8, .t 11], .m 4 12]) <| .ret
theorem YG : cFn Tryz.prog Sp 13 [.t 4] Sq := ⟨Tryz.f240, _, Tryz.func240, rfl, by kernel_rfl, by kernel_rfl, by kernel_rfl, by kernel_rfl⟩
@[simp] abbrev GV : Nat := 175
def GW : ACode := .seq (.reg [.o 2 .mv [.c (.os 1 [])]]) <| .seq (.reg [.m 3 0, .m 4 0, .n 5 4, .m 6 0, .n 7 6, .o 8 (.slice 1 false false true true) [.t 3, .t 5, .t 7], .m 2 8]) <| .ret
theorem Ls : cFn Tryz.prog GV 9 [.t 2] GW := ⟨Tryz.f175, _, Tryz.func175, rfl, by kernel_rfl, by kernel_rfl, by kernel_rfl, by kernel_rfl⟩
@[simp] abbrev Hg : Nat := 195
abbrev Ch : Plan := .al (.o 35 (.call 240 []) [.t 27, .t 34]) ( .al (.o 36 (.bsl 1) [.t 35]) ( .al (.o 37 (.app 1 8 true) [.t 23, .t 36]) ( .take (.m 7 37) <| .done)))
abbrev Ea : Plan := .al (.o 32 (.call 205 []) [.t 29, .t 30, .t 31]) ( .take (.o 33 (.iadr 1) [.t 28, .t 32]) <| .al (.l 34 33) Ch)
def CC : ACode := .seq (.reg [.o 13 (.bin .lss 0) [.t 12, .t 11]]) <| .seq (.cond (.t 13) ( .skip) ( .exit 0)) <| .seq (.block 1 ( .seq (.reg [.m 14 12, .o 15 (.iadr 1) [.t 10, .t 12], .l 16 15, .m 8 14, .m 9 16]) <| .seq (.reg [.m 17 9, .o 18 (.bin .eql 0) [.t 17, .k 1], .m 19 18, .mg 20 9 19 false, .g 21 (.bin .eql 0) [.t 20, .k 2] 19 false, .o 22 .pick [.t 19, .kb true, .t 21]]) <| .cond (.t 22) ( .draw ( .take (.m 23 7) <| .take (.m 24 1) <| .take (.m 25 8) <| .take (.o 26 (.iadr 1) [.t 24, .t 25]) <| .take (.m 28 1) <| .take (.m 30 8) <| .take (.m 31 9) <| .alt (.l 27 26) ( .al (.la 29 3 3) Ea) <| .al (.la 29 3 3) ( .alt (.l 27 26) Ea <| .al (.o 32 (.call 205 []) [.t 29, .t 30, .t 31]) ( .take (.o 33 (.iadr 1) [.t 28, .t 32]) <| .alt (.l 27 26) ( .al (.l 34 33) Ch) <| .al (.l 34 33) ( .al (.l 27 26) Ch))))) ( .skip))) <| .reg [.o 38 (.bin .add 0) [.t 12, .k 1], .m 12 38]
def Hh : ACode := .seq (.reg [.o 3 .box [.t 0], .o 6 .mv [.c (.os 1 [])]]) <| .seq (.reg [.o 7 .mv [.c (.os 1 [])]]) <| .seq (.seq (.reg [.m 10 2, .n 11 10, .o 12 .mv [.k 0]]) <| .block 0 ( .loop [(1, 1), (7, 1), (10, 1)] [1, 3, 7, 10, 11, 12] CC)) <| .seq (.reg [.m 39 7, .o 40 (.call 175 []) [.t 39], .m 6 40]) <| .ret
theorem N7 : cFn Tryz.prog Hg 41 [.t 6] Hh := ⟨Tryz.f195, _, Tryz.func195, rfl, by kernel_rfl, by kernel_rfl, by kernel_rfl, by kernel_rfl⟩
@[simp] def md0 (f : Nat) : List Bool := if f = 89 ∨ f = 90 ∨ f = 152 ∨ f = 27 ∨ f = 91 then [true, false] else if f = 175 ∨ f = 173 ∨ f = 188 ∨ f = 196 ∨ f = 197 then [true] else []
theorem UG (bs : List Bool) (left : Int) (h0 : 0 ≤ left) (h1 : left < 2 ^ 60) (hb : bs.length ≤ 9223372036854775807) :
  SoundAt Tryz.prog NE [.sl 1 1 (AC bs), .v (.int .i64 left)] (.v (.int .i64 (if left < bs.length then -1 else left - bs.length))) [.bot, .bot] := by
 refine AE (md := md0) (ms := [false, false]) UB (by simp) ?_
 simp [NF]
 omega
theorem Sr (W T : Int) (bs : List Bool) (left : Int) (h0 : 0 ≤ left) (h1 : left < 2 ^ 60) (hb : bs.length ≤ 9223372036854775807) :
  SoundAt Tryz.prog Lk [.agg [.v (.int .i64 W), .v (.int .i64 T), .sl 1 1 (AC bs)], .v (.int .i64 left)] (.v (.int .i64 (if left < bs.length then -1 else left - bs.length))) [.bot, .bot] := by
 refine AE (md := md0) (ms := [false, false]) Sg (by simp) ?_
 simp [Ll]
 refine AA (UG bs left h0 h1 hb) ?_
 simp
 split <;> omega
theorem Vq {α : Type} (xs : List α) (z d : α) (i : Nat) (hi : i < xs.length) : (xs.take i ++ List.replicate (xs.length - i) z).set i (xs.getD i d) = xs.take (i + 1) ++ List.replicate (xs.length - (i + 1)) z := by
 have hd : xs.getD i d = xs[i] := by simp [hi]
 have hl : (List.take i xs).length = i := by simp; omega
 rw [List.set_append_right _ _ (by omega), List.take_succ_eq_append_getElem hi, hd, hl, Nat.sub_self, show xs.length - i = (xs.length - (i + 1)) + 1 by omega, List.replicate_succ, List.set_cons_zero, List.append_assoc]
 rfl
theorem UH (bs : List Bool) (hb : bs.length < 2 ^ 40) :
  SoundAt Tryz.prog NG [.sl 1 1 (AC bs)] (.os 1 (AC bs)) [.bot] := by
 refine AE (md := md0) (ms := [false]) UC (by simp) ?_
 simp [NH]
 refine ⟨by omega, ?_⟩
 refine AF (fun m E H => ∃ i : Nat, m = bs.length - i ∧ i ≤ bs.length ∧ H = [some (.arr 1 (AC (bs.take i ++ List.replicate (bs.length - i) false)))] ∧ E = [(0, .sl 1 1 (AC bs)), (3, .ls 1 0 0 bs.length), (4, .v (.int .i64 i))]) bs.length ⟨0, by simp [am]⟩ ?_
 rintro J hJ m E H ⟨i, rfl, hi, rfl, rfl⟩
 simp [Jr]
 refine ⟨fun h => ?_, fun h => ?_⟩
 ·simp [h]
  refine ⟨by omega, by omega, _, ?_, hJ _ _ _ ⟨i + 1, rfl, h, ?_, rfl⟩⟩
  ·omega
  ·rw [Wz, gH, Vq bs false false i h]
 ·have : i = bs.length := by omega
  subst this
  simp
theorem Kc (bs : List Int) (hb : bs.length < 2 ^ 40) :
  SoundAt Tryz.prog Om [.sl 1 1 (AB bs)] (.os 1 (AB bs)) [.bot] := by
 refine AE (md := md0) (ms := [false]) Vj (by simp) ?_
 simp [On]
 refine ⟨by omega, ?_⟩
 refine AF (fun m E H => ∃ i : Nat, m = bs.length - i ∧ i ≤ bs.length ∧ H = [some (.arr 1 (AB (bs.take i ++ List.replicate (bs.length - i) 0)))] ∧ E = [(0, .sl 1 1 (AB bs)), (3, .ls 1 0 0 bs.length), (4, .v (.int .i64 i))]) bs.length ⟨0, by simp [Y1]⟩ ?_
 rintro J hJ m E H ⟨i, rfl, hi, rfl, rfl⟩
 simp [Ku]
 refine ⟨fun h => ?_, fun h => ?_⟩
 ·simp [h]
  refine ⟨by omega, by omega, _, ?_, hJ _ _ _ ⟨i + 1, rfl, h, ?_, rfl⟩⟩
  ·omega
  ·rw [EA, gG, Vq bs 0 0 i h]
 ·have : i = bs.length := by omega
  subst this
  simp
theorem Ss (W T : Int) (bs : List Bool) (hb : bs.length < 2 ^ 40) :
  SoundAt Tryz.prog Lm [.agg [.v (.int .i64 W), .v (.int .i64 T), .sl 1 1 (AC bs)]] (.agg [.v (.int .i64 W), .v (.int .i64 T), .os 1 (AC bs)]) [.bot] := by
 refine AE (md := md0) (ms := [false]) Sh (by simp) ?_
 simp [Ln]
 refine AA (UH bs hb) ?_
 simp
theorem Du (xs : List Int) : SoundAt Tryz.prog GV [.os 1 (AB xs)] (.os 1 (AB xs)) [.bot] := by
 refine AE (md := md0) (ms := [false]) Ls (by simp) ?_
 simp [GW]
theorem Vr {α : Type} (X bs : List α) (i : Nat) (v : α) (hX : X.length = i) (hi : i < bs.length) : (X ++ bs.drop i).set i v = (X ++ [v]) ++ bs.drop (i + 1) := by
 rw [List.set_append_right _ _ (by omega), hX, Nat.sub_self, List.drop_eq_getElem_cons hi, List.set_cons_zero, List.append_assoc]
 rfl
def Dv (n : Nat) (k : Int) : List Bool := (List.range n).map fun (j : Nat) => (k + j) % 3 == 0
def A9 (n : Nat) (k : Int) : List Int := (List.range n).map fun (j : Nat) => k + j
theorem UI (xs ys : List Bool) (ha : xs.length < 2 ^ 40) :
  SoundAt Tryz.prog NI [.sl 1 1 (AC xs), .sl 1 1 (AC ys)] (.v (.bool (decide (xs = ys)))) [.bot, .bot] := by
 refine AE (md := md0) (ms := [false, false]) UD (by simp) ?_
 simp [NJ]
 refine ⟨fun h => ?_, fun hl => ?_⟩
 ·intro e; subst e; exact h rfl
 refine AF (fun m E H => ∃ i : Nat, m = xs.length - i ∧ i ≤ xs.length ∧ xs.take i = ys.take i ∧ H = [] ∧ E = [(0, .sl 1 1 (AC xs)), (1, .sl 1 1 (AC ys)), (5, .v (.int .i64 i))]) xs.length ⟨0, by simp⟩ ?_
 rintro J hJ m E H ⟨i, rfl, hi, he, rfl, rfl⟩
 simp [Js]
 refine ⟨fun h => ?_, fun h => ?_⟩
 ·have h2 : i < ys.length := by omega
  simp [h, h2]
  have key : (atb xs i = atb ys i) → xs.take (i + 1) = ys.take (i + 1) := by
   intro e
   rw [List.take_succ_eq_append_getElem h, List.take_succ_eq_append_getElem (by omega), he]
   simp [atb, h, show i < ys.length by omega] at e
   rw [e]
  have key2 : ¬ (atb xs i = atb ys i) → xs ≠ ys := fun e e2 => e (by rw [e2])
  refine ⟨fun e => ?_, fun e => ?_⟩
  ·exact key2 (by simpa using e)
  ·exact ⟨by omega, _, by omega, hJ _ _ _ ⟨i + 1, rfl, h, key (by simpa using e), rfl, rfl⟩⟩
 ·have h1 : i = xs.length := by omega
  subst h1
  rw [List.take_length] at he
  rw [he]
  exact List.take_of_length_le (by omega)
theorem Kd (xs ys : List Int) (ha : xs.length < 2 ^ 40) :
  SoundAt Tryz.prog Oo [.sl 1 1 (AB xs), .sl 1 1 (AB ys)] (.v (.bool (decide (xs = ys)))) [.bot, .bot] := by
 refine AE (md := md0) (ms := [false, false]) Vk (by simp) ?_
 simp [Oq]
 refine ⟨fun h => ?_, fun hl => ?_⟩
 ·intro e; subst e; exact h rfl
 refine AF (fun m E H => ∃ i : Nat, m = xs.length - i ∧ i ≤ xs.length ∧ xs.take i = ys.take i ∧ H = [] ∧ E = [(0, .sl 1 1 (AB xs)), (1, .sl 1 1 (AB ys)), (5, .v (.int .i64 i))]) xs.length ⟨0, by simp⟩ ?_
 rintro J hJ m E H ⟨i, rfl, hi, he, rfl, rfl⟩
 simp [Kv]
 refine ⟨fun h => ?_, fun h => ?_⟩
 ·have h2 : i < ys.length := by omega
  simp [h, h2]
  have key : (ati xs i = ati ys i) → xs.take (i + 1) = ys.take (i + 1) := by
   intro e
   rw [List.take_succ_eq_append_getElem h, List.take_succ_eq_append_getElem (by omega), he]
   simp [ati, h, show i < ys.length by omega] at e
   rw [e]
  have key2 : ¬ (ati xs i = ati ys i) → xs ≠ ys := fun e e2 => e (by rw [e2])
  refine ⟨fun e => ?_, fun e => ?_⟩
  ·exact key2 (by simpa using e)
  ·exact ⟨by omega, _, by omega, hJ _ _ _ ⟨i + 1, rfl, h, key (by simpa using e), rfl, rfl⟩⟩
 ·have h1 : i = xs.length := by omega
  subst h1
  rw [List.take_length] at he
  rw [he]
  exact List.take_of_length_le (by omega)
theorem RT (bs : List Bool) (k : Int) (h0 : 0 ≤ k) (h1 : k < 2 ^ 40) (hb : bs.length < 2 ^ 40) :
  SoundAt Tryz.prog Kw [.os 1 (AC bs), .v (.int .i64 k)] (.v (.int .i64 (k + bs.length))) [.os 1 (AC (Dv bs.length k)), .bot] := by
 refine AE (md := md0) (ms := [true, false]) RR (by simp) ?_
 simp [Kx]
 refine AF (fun m E H => ∃ i : Nat, m = bs.length - i ∧ i ≤ bs.length ∧ H = [some (.arr 1 (AC (Dv i k ++ bs.drop i)))] ∧ E = [(0, .ls 1 0 0 bs.length), (1, .v (.int .i64 (k + i))), (5, .v (.int .i64 i)), (21, .ls 1 0 0 bs.length)]) bs.length ⟨0, by simp [Dv]⟩ ?_
 rintro J hJ m E H ⟨i, rfl, hi, rfl, rfl⟩
 simp [HY]
 refine ⟨fun h => ?_, fun h => ?_⟩
 ·simp [h]
  have e : (AC (Dv i k ++ bs.drop i)).set i (.v (.bool ((k + i) % 3 == 0))) = AC (Dv (i + 1) k ++ bs.drop (i + 1)) := by
   rw [Wz, Vr _ _ _ _ (by simp [Dv]) h, Dv, Dv, List.range_succ, List.map_append]; rfl
  simp [Dv] at e ⊢
  refine ⟨by omega, by omega, by omega, by omega, _, ?_, hJ _ _ _ ⟨i + 1, rfl, h, ?_, ?_⟩⟩
  ·omega
  ·simp [Dv, e]
  ·simp; omega
 ·have : i = bs.length := by omega
  subst this
  simp [Dv]
theorem Lt (bs : List Int) (k : Int) (h0 : 0 ≤ k) (h1 : k < 2 ^ 40) (hb : bs.length < 2 ^ 40) :
  SoundAt Tryz.prog HZ [.os 1 (AB bs), .v (.int .i64 k)] (.v (.int .i64 (k + bs.length))) [.os 1 (AB (A9 bs.length k)), .bot] := by
 refine AE (md := md0) (ms := [true, false]) Lq (by simp) ?_
 simp [Ha]
 refine AF (fun m E H => ∃ i : Nat, m = bs.length - i ∧ i ≤ bs.length ∧ H = [some (.arr 1 (AB (A9 i k ++ bs.drop i)))] ∧ E = [(0, .ls 1 0 0 bs.length), (1, .v (.int .i64 (k + i))), (5, .v (.int .i64 i)), (19, .ls 1 0 0 bs.length)]) bs.length ⟨0, by simp [A9]⟩ ?_
 rintro J hJ m E H ⟨i, rfl, hi, rfl, rfl⟩
 simp [FG]
 refine ⟨fun h => ?_, fun h => ?_⟩
 ·simp [h]
  have e : (AB (A9 i k ++ bs.drop i)).set i (.v (.int .i64 (k + i))) = AB (A9 (i + 1) k ++ bs.drop (i + 1)) := by
   rw [EA, Vr _ _ _ _ (by simp [A9]) h, A9, A9, List.range_succ, List.map_append]; rfl
  simp [A9] at e ⊢
  refine ⟨by omega, by omega, by omega, _, ?_, hJ _ _ _ ⟨i + 1, rfl, h, ?_, ?_⟩⟩
  ·omega
  ·simp [A9, e]
  ·simp; omega
 ·have : i = bs.length := by omega
  subst this
  simp [A9]
@[simp] theorem FI (n : Nat) (k : Int) : (A9 n k).length = n := by simp [A9]
@[simp] theorem HD (n : Nat) (k : Int) : (Dv n k).length = n := by simp [Dv]
@[simp] theorem gk (n : Nat) (k : Int) : (AB (A9 n k)).take n = AB (A9 n k) := by
  have := AD (A9 n k)
  rwa [FI] at this
@[simp] theorem gl (n : Nat) (k : Int) : (AC (Dv n k)).take n = AC (Dv n k) := by
  have := Tz (Dv n k)
  rwa [HD] at this
theorem Lu (n : Nat) (k : Int) (h0 : 0 ≤ k) (h1 : k < 2 ^ 40) (hb : n < 2 ^ 40) :
  SoundAt Tryz.prog Hb [.sl 1 1 (AB (A9 n k)), .v (.int .i64 k)] (.v (.int .i64 (k + n))) [.bot, .bot] := by
 refine AE (md := md0) (ms := [false, false]) Lr (by simp) ?_
 simp [Hc]
 refine AF (fun m E H => ∃ i : Nat, m = n - i ∧ i ≤ n ∧ H = [] ∧ E = [(0, .sl 1 1 (AB (A9 n k))), (1, .v (.int .i64 (k + i))), (5, .v (.int .i64 i))]) n ⟨0, by simp⟩ ?_
 rintro J hJ m E H ⟨i, rfl, hi, rfl, rfl⟩
 simp [FH, FI]
 refine ⟨fun h => ?_, fun h => ?_⟩
 ·have e : ati (A9 n k) i = k + i := by simp [ati, A9, h]
  have hl := FI n k
  simp [e, h]
  refine ⟨by omega, by omega, _, by omega, hJ _ _ _ ⟨i + 1, rfl, h, rfl, ?_⟩⟩
  simp; omega
 ·have : i = n := by omega
  subst this
  simp
theorem St (W T W2 T2 : Int) (xs ys : List Bool) (ha : xs.length < 2 ^ 40) :
  SoundAt Tryz.prog Lo [.agg [.v (.int .i64 W), .v (.int .i64 T), .sl 1 1 (AC xs)], .agg [.v (.int .i64 W2), .v (.int .i64 T2), .sl 1 1 (AC ys)]] (.v (.bool (decide (W = W2 ∧ T = T2 ∧ xs = ys)))) [.bot, .bot] := by
 refine AE (md := md0) (ms := [false, false]) Si (by simp) ?_
 simp [Lp]
 refine ⟨fun h => fun e => absurd e h, fun h1 => ⟨fun h _ e => absurd e h, fun h2 => ?_⟩⟩
 refine AA (UI xs ys ha) ?_
 simp [h1, h2]
theorem QV (W T : Int) (bs : List Bool) (k : Int) (h0 : 0 ≤ k) (h1 : k < 2 ^ 40) (hb : bs.length < 2 ^ 40) :
  SoundAt Tryz.prog Jt [.agg [.v (.int .i64 W), .v (.int .i64 T), .os 1 (AC bs)], .v (.int .i64 k)] (.v (.int .i64 (k + bs.length))) [.agg [.v (.int .i64 W), .v (.int .i64 T), .os 1 (AC (Dv bs.length k))], .bot] := by
 refine AE (md := md0) (ms := [true, false]) QU (by simp) ?_
 simp [Ju]
 refine AA (RT bs k h0 h1 hb) ?_
 simp [HD]
theorem BP (x lo hi : Int) : SoundAt Tryz.prog Kb [.v (.int .i64 x), .v (.int .i64 lo), .v (.int .i64 hi)] (.v (.bool (decide (lo ≤ x ∧ x ≤ hi)))) [.bot, .bot, .bot] := by
 refine AE (md := md0) (ms := [false, false, false]) YD (by simp) ?_
 simp [Sj]
 constructor
 ·intro h; simp [h]
 ·intro h; omega
theorem NP (bs : List Bool) (hb : bs.length < 2 ^ 40) : SoundAt Tryz.prog NK [.sl 1 1 (AC bs)] (.v (.int .i64 (Bg bs))) [.bot] := by
 refine AE (md := md0) (ms := [false]) UE (by simp) ?_
 simp [NL]
 refine AF (fun m E H => ∃ i : Nat, m = bs.length - i ∧ i ≤ bs.length ∧ H = [] ∧ E = [(0, .sl 1 1 (AC bs)), (3, .v (.int .i64 (Bg (bs.take i)))), (4, .v (.int .i64 i))]) bs.length ⟨0, by simp [Bg]⟩ ?_
 rintro J hJ m E H ⟨i, rfl, hi, rfl, rfl⟩
 simp [Jv]
 refine ⟨fun h => ?_, fun h => ?_⟩
 ·have e := N6 bs i h
  have e3 := HV (bs.take i)
  rw [List.length_take] at e3
  simp [h]
  refine ⟨fun hb => ⟨by omega, by omega, _, by omega, hJ _ _ _ ⟨i + 1, rfl, h, rfl, ?_⟩⟩, fun hb => ⟨by omega, _, by omega, hJ _ _ _ ⟨i + 1, rfl, h, rfl, ?_⟩⟩⟩ <;> simp [e, hb]
 ·have : i = bs.length := by omega
  subst this
  simp
theorem BG (W T : Int) (cs : List Bool) (hb : cs.length < 2 ^ 40) : SoundAt Tryz.prog Ik [.agg [.v (.int .i64 W), .v (.int .i64 T), .sl 1 1 (AC cs)]] (.v (.bool (Az W T cs))) [.bot] := by
 refine AE (md := md0) (ms := [false]) Ot (by simp) ?_
 simp [Il]
 refine AA (BP W 1 6) ?_
 simp
 refine ⟨fun h h' => ?_, fun h => ?_⟩
 ·refine AA (BP T 1 6) ?_
  have hx : T ≤ 6 → W * T ≤ 36 ∧ (1 ≤ T → 1 ≤ W * T) := fun ht => ⟨(by
   by_cases h0 : 0 ≤ T
   ·exact Int.mul_le_mul h' ht h0 (by omega)
   ·have : W * T ≤ 0 := Int.mul_nonpos_of_nonneg_of_nonpos (by omega) (by omega)
    omega), fun h1 => Int.mul_pos (by omega) (by omega)⟩
  simp
  refine ⟨fun h1 h2 => ⟨by have := hx h2; omega, fun h3 => ?_, fun h3 => ?_⟩, fun h1 => ?_⟩
  ·refine AA (NP cs hb) ?_
   simp [Az, h, h', h1, h2, h3]
   omega
  ·simp [Az]; omega
  ·simp [Az]; omega
 ·simp [Az]; omega
theorem O8 (n : Int) (h : 0 ≤ n) (h2 : n < 2 ^ 60) : SoundAt Tryz.prog Ov [.v (.int .i64 n)] (.v (.int .i64 (Ck n))) [.bot] := by
 refine AE (md := md0) (ms := [false]) Vm (by simp) ?_
 simp [Ow, Ck]
 omega
theorem Vs (a b : Int) (h1 : 0 ≤ a ∧ a ≤ 6) (h2 : 0 ≤ b ∧ b ≤ 6) : SoundAt Tryz.prog Oz [.v (.int .i64 a), .v (.int .i64 b)] (.v (.int .i64 (W6 a b))) [.bot, .bot] := by
 refine AE (md := md0) (ms := [false, false]) Vo (by simp) ?_
 simp [O0]
 refine AA (BP a 0 6) ?_
 simp [h1]
 refine AA (BP b 0 6) ?_
 simp [h2, W6]
 rw [Int.min_def, Int.max_def]
 (repeat' split) <;> omega
theorem HE (W T : Int) (cs : List Bool) (k way : Int) (hr : Az W T cs = true) (h0 : 0 ≤ k) (h1 : k < cs.length) :
  SoundAt Tryz.prog HC [.agg [.v (.int .i64 W), .v (.int .i64 T), .sl 1 1 (AC cs)], .v (.int .i64 k), .v (.int .i64 way)] (.v (.int .i64 (AJ W T k way))) [.bot, .bot, .bot] := by
 refine AE (md := md0) (ms := [false, false, false]) Vl (by simp) ?_
 obtain ⟨w1, w2, t1, t2, l1, _⟩ := CK hr
 have hl := AZ hr
 have hxy := Vd (T := T) (k := k) w1 h0 (by omega)
 have e1 : AJ W T k way = if way = 1 ∧ k % W < W - 1 then k + 1 else if way = 2 ∧ k / W < T - 1 then k + W else if way = 3 ∧ 0 < k % W then k - 1 else if way = 4 ∧ 0 < k / W then k - W else -1 := rfl
 rw [e1]
 clear e1 hr
 generalize hA : k % W = A at *
 generalize hB : k / W = B at *
 by_cases c1 : way = 1
 ·subst c1; simp [EB, hA, hB]; omega
 by_cases c2 : way = 2
 ·subst c2; simp [EB, hA, hB]; omega
 by_cases c3 : way = 3
 ·subst c3; simp [EB, hA, hB]; omega
 by_cases c4 : way = 4
 ·subst c4; simp [EB, hA, hB]; omega
 simp [EB, c1, c2, c3, c4]
theorem CN (W T : Int) (cs : List Bool) (ds : List Int) (hb : cs.length < 2 ^ 40) (hd : ds.length < 2 ^ 40) :
  SoundAt Tryz.prog Im [.agg [.v (.int .i64 W), .v (.int .i64 T), .sl 1 1 (AC cs)], .sl 1 1 (AB ds)] (.v (.bool (Az W T cs && Cd cs ds))) [.bot, .bot] := by
 refine AE (md := md0) (ms := [false, false]) Ou (by simp) ?_
 simp [Ip]
 refine AA (BG W T cs hb) ?_
 simp
 refine ⟨fun hr => ⟨fun hl => ?_, fun hl => ?_⟩, fun hr => ?_⟩
 ·intro _
  simp [Cd]; omega
 ·have hl' : ds.length = cs.length := by omega
  refine AF (fun m E H => ∃ i : Nat, m = ds.length - i ∧ i ≤ ds.length ∧ T4 i (fun k => Jo cs ds k) = true ∧ H = [some (.box [.v (.int .i64 W), .v (.int .i64 T), .sl 1 1 (AC cs)])] ∧ E = [(1, .sl 1 1 (AB ds)), (2, .lp 0 0 0 0), (5, .v (.int .i64 i))]) ds.length ⟨0, by simp [GT]⟩ ?_
  rintro J hJ m E H ⟨i, rfl, hi, ha, rfl, rfl⟩
  by_cases h : i < ds.length
  ·have h2 : i < cs.length := by omega
   have next : Jo cs ds i = true → Cz J (ds.length - i) [(1, .sl 1 1 (AB ds)), (2, .lp 0 0 0 0), (5, .v (.int .i64 (i + 1)))] [some (.box [.v (.int .i64 W), .v (.int .i64 T), .sl 1 1 (AC cs)])] :=
    fun hd => ⟨_, by omega, hJ _ _ _ ⟨i + 1, rfl, h, by rw [GU, ha, hd]; rfl, rfl, rfl⟩⟩
   have stop : Jo cs ds i = false → Cd cs ds = false := fun hd => by simp only [Cd, hl', decide_true, Bool.true_and]; exact F4 h2 hd
   cases hc : atb cs i with
   | true =>
     simp [CL, h, h2, hc]
     refine AA (BP (ati ds i) 0 6) ?_
     simp [Jo, hc] at next stop ⊢
     (repeat' first | assumption | omega | apply And.intro | intro _) <;> first | omega | exact stop (by omega) | exact next (by omega) (by omega)
   | false =>
     simp [CL, h, h2, hc]
     simp [Jo, hc] at next stop ⊢
     exact ⟨fun hx => fun _ => stop hx, fun hx => ⟨by omega, next hx⟩⟩
  ·have : i = ds.length := by omega
   subst this
   simp [CL]
   simp [Cd, hr, hl'] at ha ⊢
   exact ha
 ·simp [hr]
theorem BV (W T : Int) (cs : List Bool) (ls : List Int) (hb : cs.length < 2 ^ 40) (hd : ls.length < 2 ^ 40) :
  SoundAt Tryz.prog Ox [.agg [.v (.int .i64 W), .v (.int .i64 T), .sl 1 1 (AC cs)], .sl 1 1 (AB ls)] (.v (.bool (Az W T cs && AO W T cs ls))) [.bot, .bot] := by
 refine AE (md := md0) (ms := [false, false]) Vn (by simp) ?_
 simp [Oy]
 refine AA (BG W T cs hb) ?_
 simp
 refine ⟨fun hr => ⟨fun hl => ?_, fun hl => ?_⟩, fun hr => ?_⟩
 ·intro _
  simp [AO]; omega
 ·have hl' : ls.length = cs.length := by omega
  obtain ⟨w1, w2, t1, t2, l1, _⟩ := CK hr
  refine AF (fun m E H => ∃ i : Nat, m = ls.length - i ∧ i ≤ ls.length ∧ T4 i (fun k => JX W T cs ls k) = true ∧ H = [some (.box [.v (.int .i64 W), .v (.int .i64 T), .sl 1 1 (AC cs)])] ∧ E = [(1, .sl 1 1 (AB ls)), (2, .lp 0 0 0 0), (5, .v (.int .i64 i))]) ls.length ⟨0, by simp [GT]⟩ ?_
  rintro J hJ m E H ⟨i, rfl, hi, ha, rfl, rfl⟩
  by_cases h : i < ls.length
  ·have h2 : i < cs.length := by omega
   have next : JX W T cs ls i = true → Cz J (ls.length - i) [(1, .sl 1 1 (AB ls)), (2, .lp 0 0 0 0), (5, .v (.int .i64 (i + 1)))] [some (.box [.v (.int .i64 W), .v (.int .i64 T), .sl 1 1 (AC cs)])] :=
    fun hd => ⟨_, by omega, hJ _ _ _ ⟨i + 1, rfl, h, by rw [GU, ha, hd]; rfl, rfl, rfl⟩⟩
   have stop : JX W T cs ls i = false → (Az W T cs && AO W T cs ls) = false := fun hd => by rw [hr, Bool.true_and]; simp only [AO, hl', decide_true, Bool.true_and]; exact F4 h2 hd
   by_cases z : ati ls i = 0
   ·simp [CG, h, h2, z]
    exact ⟨by omega, next (by simp [JX, z])⟩
   by_cases rg : 1 ≤ ati ls i ∧ ati ls i ≤ 4
   case neg =>
    simp [CG, h, h2, z]
    refine AA (BP (ati ls i) 1 4) ?_
    have hs := stop (by simp [JX, z]; omega)
    have hx : (decide (1 ≤ ati ls i) && decide (ati ls i ≤ 4)) = false := by simp; omega
    simp [hx, hs]
   cases hc : atb cs i with
   | false =>
     simp [CG, h, h2, z]
     refine AA (BP (ati ls i) 1 4) ?_
     have hs := stop (by simp [JX, z, hc])
     simp [rg, hs, hc, h2]
   | true =>
     have hst := F5 (T := T) (k := i) (way := ati ls i) w1 (by omega) (by omega)
     have one : SoundAt Tryz.prog HC [.agg [.v (.int .i64 W), .v (.int .i64 T), .sl 1 1 (AC cs)], .v (.int .i64 i), .v (.int .i64 (ati ls i))] (.v (.int .i64 (AJ W T i (ati ls i)))) [.bot, .bot, .bot] := HE W T cs i (ati ls i) hr (by omega) (by omega)
     have two := O8 (ati ls i) (by omega) (by omega)
     simp [JX, z, rg, hc] at next stop
     generalize hto : AJ W T i (ati ls i) = to at *
     simp [CG, h, h2, z]
     refine AA (BP (ati ls i) 1 4) ?_
     simp [rg, hc, h2]
     rcases hst with hst | ⟨hst, hst2, -, -⟩
     ·subst hst
      have hs := stop (by omega) hr
      (repeat' first | assumption | omega | apply And.intro | intro _) <;> first
       | assumption
       | (refine AA one ?_; simp [hs])
     ·have e1 : ¬ to < 0 := by omega
      have e2 : to < cs.length := by omega
      have e3 : to < ls.length := by omega
      cases hct : atb cs to with
      | false =>
        have hs := stop (by simp [hct]) hr
        (repeat' first | assumption | omega | apply And.intro | intro _) <;> first
         | assumption
         | (refine AA one ?_; simp [hs, e1, e2, e3, hst, hct])
      | true =>
        simp [hst, hct] at next stop
        (repeat' first | assumption | omega | apply And.intro | intro _) <;> first
         | assumption
         | (refine AA one ?_
            simp [e1, e2, e3, hst, hct, h]
            (repeat' first | assumption | omega | apply And.intro | intro _) <;> first
             | assumption
             | (refine AA two ?_
                simp [e1, e2, e3, hst, hct, h]
                (repeat' first | assumption | omega | apply And.intro | intro _) <;> first
                 | assumption
                 | omega
                 | exact next (by assumption)
                 | exact stop (by assumption) (by assumption)))
  ·have : i = ls.length := by omega
   subst this
   simp [CG]
   simp [AO, hr, hl'] at ha ⊢
   exact ha
 ·simp [hr]
def okB (W T : Int) (cs : List Bool) (ds ls : List Int) : Bool := Az W T cs && (Cd cs ds && AO W T cs ls)
theorem Lv {W T : Int} {cs : List Bool} {ds ls : List Int} (h : okB W T cs ds ls = true) : Az W T cs = true ∧ ds.length = cs.length ∧ ls.length = cs.length ∧
  ∀ k : Nat, k < cs.length → Jo cs ds k = true ∧ JX W T cs ls k = true := by
 simp only [okB, Cd, AO, Bool.and_eq_true, decide_eq_true_eq, Cl] at h
 obtain ⟨h1, ⟨h2, h3⟩, h4, h5⟩ := h
 exact ⟨h1, h2, h4, fun k hk => ⟨h3 k (by omega), h5 k (by omega)⟩⟩
theorem XJ {W T : Int} {cs : List Bool} {ds ls : List Int} (h : okB W T cs ds ls = true) {k : Nat} (hk : k < cs.length) (hw : ati ls k = 1 ∨ ati ls k = 2) :
  0 ≤ AJ W T k (ati ls k) ∧ AJ W T k (ati ls k) < cs.length ∧ (0 ≤ ati ds k ∧ ati ds k ≤ 6) ∧ (0 ≤ ati ds (AJ W T k (ati ls k)) ∧ ati ds (AJ W T k (ati ls k)) ≤ 6) := by
 obtain ⟨hr, h1, h2, h3⟩ := Lv h
 obtain ⟨w1, w2, t1, t2, l1, _⟩ := CK hr
 obtain ⟨d1, p1⟩ := h3 k hk
 have hst := F5 (T := T) (k := k) (way := ati ls k) w1 (by omega) (by omega)
 simp only [JX, decide_eq_true_eq] at p1
 rcases p1 with p1 | ⟨_, _, pc, p0, pt, _⟩
 ·omega
 generalize hto : AJ W T k (ati ls k) = to at *
 have d2 := (h3 to.toNat (by omega)).1
 rw [show ((to.toNat : Nat) : Int) = to by omega] at d2
 simp only [Jo, pc, pt, if_true, decide_eq_true_eq] at d1 d2
 exact ⟨p0, by omega, d1, d2⟩
theorem UJ (W T : Int) (cs : List Bool) (ds ls : List Int) (hb : cs.length < 2 ^ 40) (hd : ds.length < 2 ^ 40) (hl : ls.length < 2 ^ 40) :
  SoundAt Tryz.prog NM [.agg [.v (.int .i64 W), .v (.int .i64 T), .sl 1 1 (AC cs)], .sl 1 1 (AB ds), .sl 1 1 (AB ls)] (.os 1 (AB (if okB W T cs ds ls then Bx W T ds ls else []))) [.bot, .bot, .bot] := by
 refine AE (md := md0) (ms := [false, false, false]) UF (by simp) ?_
 simp [NN]
 refine AF (fun m E H => ∃ i : Nat, m = ls.length - i ∧ i ≤ ls.length ∧ (i = 0 ∨ okB W T cs ds ls = true) ∧ H = [some (.box [.v (.int .i64 W), .v (.int .i64 T), .sl 1 1 (AC cs)]), some (.arr 1 (AB (Au W T ds ls i)))] ∧
  E = [(1, .sl 1 1 (AB ds)), (2, .sl 1 1 (AB ls)), (3, .lp 0 0 0 0), (7, .ls 1 1 0 (Au W T ds ls i).length), (8, .v (.int .i64 i))]) ls.length ⟨0, by simp [Au]⟩ ?_
 rintro J hJ m E H ⟨i, rfl, hi, hz, rfl, rfl⟩
 by_cases h : i < ls.length
 case neg =>
  have : i = ls.length := by omega
  subst this
  simp [F7]
  rcases hz with hz | hz
  ·have : ls = [] := List.eq_nil_of_length_eq_zero hz
   subst this
   simp [Bx, Au]
  ·simp [hz, Bx]
 simp [F7, h]
 refine AA (CN W T cs ds hb hd) ?_
 have ok0 : okB W T cs ds ls = false → i = 0 := fun h => by rcases hz with hz | hz; exact hz; rw [h] at hz; cases hz
 cases hp : (Az W T cs && Cd cs ds) with
 | false =>
   have hn : okB W T cs ds ls = false := by simp only [okB, ← Bool.and_assoc, hp, Bool.false_and]
   have := ok0 hn; subst this
   simp [hn, Au]
 | true =>
 simp
 refine AA (BV W T cs ls hb hl) ?_
 cases hp2 : (Az W T cs && AO W T cs ls) with
 | false =>
   have hn : okB W T cs ds ls = false := by
    simp only [Bool.and_eq_true] at hp
    rw [hp.1, Bool.true_and] at hp2
    simp [okB, hp2]
   have := ok0 hn; subst this
   simp [hn, Au]
 | true =>
 have hok : okB W T cs ds ls = true := by
  simp only [Bool.and_eq_true] at hp hp2
  simp [okB, hp, hp2]
 obtain ⟨hr, e1, e2, _⟩ := Lv hok
 have hlen := EY W T ds ls i
 have hl36 := AZ hr
 have hsuc := Ex W T ds ls i
 have next : ∀ (x : List Int), Au W T ds ls (i + 1) = Au W T ds ls i ++ x → Cz J (ls.length - i) [(1, .sl 1 1 (AB ds)), (2, .sl 1 1 (AB ls)), (3, .lp 0 0 0 0), (7, .ls 1 1 0 ((Au W T ds ls i).length + x.length)), (8, .v (.int .i64 (i + 1)))]
   [some (.box [.v (.int .i64 W), .v (.int .i64 T), .sl 1 1 (AC cs)]), some (.arr 1 (AB (Au W T ds ls i) ++ AB x))] := by
  intro x hx
  refine ⟨_, by omega, hJ _ _ _ ⟨i + 1, rfl, h, .inr hok, ?_, ?_⟩⟩
  ·rw [hx, Ka]
  ·rw [hx, List.length_append]; rfl
 have hds : i < ds.length := by omega
 by_cases hw : ati ls i = 1 ∨ ati ls i = 2
 ·obtain ⟨o1, o2, o3, o4⟩ := XJ hok (k := i) (by omega) hw
  have one : SoundAt Tryz.prog HC [.agg [.v (.int .i64 W), .v (.int .i64 T), .sl 1 1 (AC cs)], .v (.int .i64 i), .v (.int .i64 (ati ls i))] (.v (.int .i64 (AJ W T i (ati ls i)))) [.bot, .bot, .bot] := HE W T cs i (ati ls i) hr (by omega) (by omega)
  have two := Vs (ati ds i) (ati ds (AJ W T i (ati ls i))) o3 o4
  have next1 := next _ (by rw [hsuc, if_pos hw])
  clear hsuc next
  simp at next1
  generalize hto : AJ W T i (ati ls i) = to at *
  have o5 : to < ds.length := by omega
  have hb : (Au W T ds ls i).length ≤ 36 := by omega
  rcases hw with hw | hw <;> rw [hw] at one <;>
  ·simp [h, hw, hds]
   (repeat' first | assumption | apply And.intro) <;>
   ·refine AA one ?_
    simp [o1, o5, hds]
    (repeat' first | assumption | apply And.intro) <;>
    ·refine AA two ?_
     simp
     exact ⟨by omega, by omega, next1⟩
 ·have hw1 : ¬ ati ls i = 1 := fun e => hw (.inl e)
  have hw2 : ¬ ati ls i = 2 := fun e => hw (.inr e)
  simp [h, hw1, hw2]
  rw [if_neg hw, List.append_nil] at hsuc
  refine ⟨by omega, _, by omega, hJ _ _ _ ⟨i + 1, rfl, h, .inr hok, ?_, ?_⟩⟩ <;> rw [hsuc]
  rfl
end Go.Proofs.Dev
