/- Contracts of the functions of the program over slots and rows, each proved against the program itself; no condition beyond those that each theorem names. -/
import Derived.Test.YtfkmfobbgoflgaaGreatDoorRows
import Derived.ProofKit
import Derived.Test.YtfkmfobbgoflgaaGreatDoorAH
import Derived.Test.YtfkmfobbgoflgaaGreatDoorTie
import Derived.Test.YtfkmfobbgoflgaaGreatDoorCards
import Derived.SevenTiedAt
import Derived.ChangeMaps5
import Derived.Test.YtfkmfobbgoflgaaGreatDoorProg
set_option linter.unusedSimpArgs false
set_option linter.unusedVariables false
set_option maxRecDepth 100000
namespace Go.Proofs.YtfkmfobbgoflgaaGreatDoor
theorem Pg : Tryz.prog.mayEnter = true := by kernel_rfl
theorem YO : Tryz.prog.make = some .cut := by kernel_rfl
theorem MU : Tryz.prog.liftsFinal = false := by kernel_rfl
open Go.ChangeShapes Go.WideShapes Go.ChangeAt Go.RowKit Go.Proofs.Dev
theorem own : ownKnob Tryz.prog.godebug = none := by kernel_rfl
theorem cz : laidOutB Tryz.prog = true := by kernel_rfl
theorem oU : Tryz.prog.cellsOf 9 = 1 := by kernel_rfl
theorem aK : Tryz.prog.globalNamed "loop.example/dominotilings/impl.deedWords" = some 0 := by kernel_rfl
theorem c7 : (Tryz.prog.globals[0]?).map (·.type) = some 58 := by kernel_rfl
theorem gq : Tryz.prog.readableRec 58 = true ∧ 58 < Tryz.prog.types.size := ⟨by kernel_rfl, of_decide_eq_true (by kernel_rfl)⟩
abbrev l9 : List (List UInt8) := [[108, 97, 121], [108, 105, 102, 116], [102, 108, 105, 112], [102, 111, 114, 99, 101], [98, 97, 99, 107]]
theorem fd {l : List (String × DataW Unit)} {W : World} (hp : (l.all fun x => x.2.handleName?.isNone) = true) (hm : ("loop.example/dominotilings/impl.deedWords", (Rows.laid_loop_example_dominotilings_impl_deedWords : DataW Unit)) ∈ l) (h : laidMetH Tryz.prog l W) :
  R (Zp W [] fun _ => False) (.vp 0 [.sl 0 1 (txs l9)] 0) [] (.pointer (some ⟨0, 0, none⟩)) := by
 rw [MakeChecks.laidMetH_plain _ _ _ hp] at h
 obtain ⟨ps, h1, _, _⟩ := h
 obtain ⟨g, t, cs, fuel, p, e1, e2, e3, e4⟩ := ZD h1 hm
 rw [aK] at e1; cases e1
 rw [c7] at e2; cases e2
 exact bJ aK Tryz.underlying58 Tryz.underlying9 oU e3 e4
theorem mA {l : List (String × DataW Unit)} {W : World} (hp : (l.all fun x => x.2.handleName?.isNone) = true) (hm : ("loop.example/dominotilings/impl.deedWords", (Rows.laid_loop_example_dominotilings_impl_deedWords : DataW Unit)) ∈ l) (h : laidMetH Tryz.prog l W) (hg : GP W [] fun _ => False) : GB W [] fun _ => False := by
 refine ⟨?_, hg⟩
 show RL (Zp W [] fun _ => False) [_] [] [_]
 rw [RL]
 exact ⟨[], [], _, _, rfl, rfl, fd hp hm h, by rw [RL]; exact ⟨rfl, rfl⟩⟩
theorem oY : Tryz.prog.globalNamed "strconv.ErrSyntax" = some 2 := by kernel_rfl
theorem oZ : Tryz.prog.globalNamed "strconv.ErrRange" = some 3 := by kernel_rfl
theorem oa : (Tryz.prog.globals[2]?).map (·.type) = some 76 := by kernel_rfl
theorem ob : (Tryz.prog.globals[3]?).map (·.type) = some 76 := by kernel_rfl
theorem mB {l : List (String × DataW Unit)} {W : World} (hp : (l.all fun x => x.2.handleName?.isNone) = true) (hm2 : ("strconv.ErrSyntax", (Rows.laid_strconv_ErrSyntax : DataW Unit)) ∈ l) (hm3 : ("strconv.ErrRange", (Rows.laid_strconv_ErrRange : DataW Unit)) ∈ l)
  (hsh : W.ShapedOpen Tryz.prog) (h : laidMetH Tryz.prog l W) : GP W [] fun _ => False := by
 rw [MakeChecks.laidMetH_plain _ _ _ hp] at h
 obtain ⟨ps, h1, _, _⟩ := h
 intro p hpm
 simp only [gps, List.mem_cons, List.not_mem_nil, or_false] at hpm
 refine ⟨⟨by simp, by simp⟩, ?_⟩
 rcases hpm with rfl | rfl | rfl
 ·obtain ⟨m, hm⟩ := cell_of_shapedOpen_int (g := 1) (zero := #[.int .i64 0]) (t := 3) hsh (of_decide_eq_true (by kernel_rfl)) (by kernel_rfl) rfl (by kernel_rfl) (by kernel_rfl) Tryz.underlying3
  exact ⟨_, hm, m, rfl⟩
 ·exact aD h1 hm2 oY oa Tryz.underlying76
 ·exact aD h1 hm3 oZ ob Tryz.underlying76
end Go.Proofs.YtfkmfobbgoflgaaGreatDoor
namespace Go.Proofs.Dev
@[simp] abbrev N7 : Nat := 139
def N8 : ACode := .seq (.reg [.o 4 .mv [.k 0]]) <| .seq (.reg [.m 5 1, .m 6 0, .n 7 6, .o 8 (.bin .sub 0) [.t 5, .t 7], .m 1 8]) <| .seq (.seq (.reg [.m 9 1, .o 10 (.bin .lss 0) [.t 9, .k 0]]) <| .cond (.t 10) ( .seq (.reg [.o 4 .mv [.k (-1)]]) <| .ret) ( .skip)) <| .seq (.reg [.m 11 1, .m 4 11]) <| .ret
theorem VB : cFn Tryz.prog N7 12 [.t 4] N8 := ⟨Tryz.f139, _, Tryz.func139, rfl, by kernel_rfl, by kernel_rfl, by kernel_rfl, by kernel_rfl⟩
@[simp] abbrev MV : Nat := 69
def MW : ACode := .seq (.reg [.o 2 .box [.t 0], .o 4 .mv [.k 0]]) <| .seq (.reg [.f 5 2 2, .l 6 5, .m 7 1, .o 8 (.call 139 []) [.t 6, .t 7], .m 1 8]) <| .seq (.seq (.reg [.m 9 1, .o 10 (.bin .lss 0) [.t 9, .k 0]]) <| .cond (.t 10) ( .seq (.reg [.o 4 .mv [.k (-1)]]) <| .ret) ( .skip)) <| .seq (.reg [.m 11 1, .m 4 11]) <| .ret
theorem Tn : cFn Tryz.prog MV 12 [.t 4] MW := ⟨Tryz.f69, _, Tryz.func69, rfl, by kernel_rfl, by kernel_rfl, by kernel_rfl, by kernel_rfl⟩
@[simp] abbrev N9 : Nat := 150
def KR : ACode := .seq (.seq (.reg [.m 8 4, .m 9 0, .n 10 9, .o 11 (.bin .lss 0) [.t 8, .t 10]]) <| .cond (.t 11) ( .skip) ( .exit 0)) <| .seq (.block 1 ( .reg [.m 14 3, .m 15 4, .m 16 0, .m 17 4, .o 18 (.iadr 1) [.t 16, .t 17], .l 19 18, .o 20 (.iadr 1) [.t 14, .t 15], .s (.store 1) [.t 20, .t 19]])) <| .reg [.m 12 4, .o 13 (.bin .add 0) [.t 12, .k 1], .m 4 13]
def OA : ACode := .seq (.reg [.o 2 .mv [.c (.os 1 [])]]) <| .seq (.reg [.m 5 0, .n 6 5, .o 7 (.mksl 1 1 (.v (.bool false))) [.t 6, .t 6], .m 3 7]) <| .seq (.seq (.reg [.o 4 .mv [.k 0]]) <| .block 0 ( .loop [(0, 1), (3, 1)] [0, 3, 4] KR)) <| .seq (.reg [.m 21 3, .m 2 21]) <| .ret
theorem VC : cFn Tryz.prog N9 22 [.t 2] OA := ⟨Tryz.f150, _, Tryz.func150, rfl, by kernel_rfl, by kernel_rfl, by kernel_rfl, by kernel_rfl⟩
@[simp] abbrev Ph : Nat := 84
def LU : ACode := .seq (.seq (.reg [.m 8 4, .m 9 0, .n 10 9, .o 11 (.bin .lss 0) [.t 8, .t 10]]) <| .cond (.t 11) ( .skip) ( .exit 0)) <| .seq (.block 1 ( .reg [.m 14 3, .m 15 4, .m 16 0, .m 17 4, .o 18 (.iadr 1) [.t 16, .t 17], .l 19 18, .o 20 (.iadr 1) [.t 14, .t 15], .s (.store 1) [.t 20, .t 19]])) <| .reg [.m 12 4, .o 13 (.bin .add 0) [.t 12, .k 1], .m 4 13]
def Pj : ACode := .seq (.reg [.o 2 .mv [.c (.os 1 [])]]) <| .seq (.reg [.m 5 0, .n 6 5, .o 7 (.mksl 1 8 (.v (.int .i64 (0)))) [.t 6, .t 6], .m 3 7]) <| .seq (.seq (.reg [.o 4 .mv [.k 0]]) <| .block 0 ( .loop [(0, 1), (3, 1)] [0, 3, 4] LU)) <| .seq (.reg [.m 21 3, .m 2 21]) <| .ret
theorem Wo : cFn Tryz.prog Ph 22 [.t 2] Pj := ⟨Tryz.f84, _, Tryz.func84, rfl, by kernel_rfl, by kernel_rfl, by kernel_rfl, by kernel_rfl⟩
@[simp] abbrev MX : Nat := 83
def MY : ACode := .seq (.reg [.o 1 .box [.t 0], .o 2 (.alloc rz) []]) <| .seq (.reg [.o 3 (.alloc rz) []]) <| .seq (.reg [.f 4 0 1, .l 5 4, .f 6 0 3, .s (.store 1) [.t 6, .t 5]]) <| .seq (.reg [.f 7 1 1, .l 8 7, .f 9 1 3, .s (.store 1) [.t 9, .t 8]]) <| .seq (.reg [.f 10 2 1, .l 11 10, .o 12 (.call 150 []) [.t 11], .f 13 2 3, .s (.store 1) [.t 13, .t 12]]) <| .seq (.reg [.la 14 3 3, .s (.store 3) [.t 2, .t 14]]) <| .ret
theorem To : cFn Tryz.prog MX 15 [.c 2 true 3] MY := ⟨Tryz.f83, _, Tryz.func83, rfl, by kernel_rfl, by kernel_rfl, by kernel_rfl, by kernel_rfl⟩
@[simp] abbrev OB : Nat := 151
def KS : ACode := .seq (.seq (.reg [.m 11 5, .m 12 0, .n 13 12, .o 14 (.bin .lss 0) [.t 11, .t 13]]) <| .cond (.t 14) ( .skip) ( .exit 0)) <| .seq (.block 1 ( .seq (.draw ( .take (.m 17 0) <| .take (.m 18 5) <| .take (.o 19 (.iadr 1) [.t 17, .t 18]) <| .take (.m 21 1) <| .take (.m 22 5) <| .take (.o 23 (.iadr 1) [.t 21, .t 22]) <| .alt (.l 20 19) ( .al (.l 24 23) ( .take (.o 25 (.bin .neq 2) [.t 20, .t 24]) <| .done)) <| .al (.l 24 23) ( .al (.l 20 19) ( .take (.o 25 (.bin .neq 2) [.t 20, .t 24]) <| .done)))) <| .cond (.t 25) ( .seq (.reg [.o 4 .mv [.kb false]]) <| .ret) ( .skip))) <| .reg [.m 15 5, .o 16 (.bin .add 0) [.t 15, .k 1], .m 5 16]
def OC : ACode := .seq (.reg [.o 4 .mv [.kb false]]) <| .seq (.seq (.reg [.m 6 0, .n 7 6, .m 8 1, .n 9 8, .o 10 (.bin .neq 0) [.t 7, .t 9]]) <| .cond (.t 10) ( .seq (.reg [.o 4 .mv [.kb false]]) <| .ret) ( .skip)) <| .seq (.seq (.reg [.o 5 .mv [.k 0]]) <| .block 0 ( .loop [(0, 1), (1, 1)] [0, 1, 5] KS)) <| .seq (.reg [.o 4 .mv [.kb true]]) <| .ret
theorem VD : cFn Tryz.prog OB 26 [.t 4] OC := ⟨Tryz.f151, _, Tryz.func151, rfl, by kernel_rfl, by kernel_rfl, by kernel_rfl, by kernel_rfl⟩
@[simp] abbrev Pk : Nat := 87
def LV : ACode := .seq (.seq (.reg [.m 11 5, .m 12 0, .n 13 12, .o 14 (.bin .lss 0) [.t 11, .t 13]]) <| .cond (.t 14) ( .skip) ( .exit 0)) <| .seq (.block 1 ( .seq (.draw ( .take (.m 17 0) <| .take (.m 18 5) <| .take (.o 19 (.iadr 1) [.t 17, .t 18]) <| .take (.m 21 1) <| .take (.m 22 5) <| .take (.o 23 (.iadr 1) [.t 21, .t 22]) <| .alt (.l 20 19) ( .al (.l 24 23) ( .take (.o 25 (.bin .neq 0) [.t 20, .t 24]) <| .done)) <| .al (.l 24 23) ( .al (.l 20 19) ( .take (.o 25 (.bin .neq 0) [.t 20, .t 24]) <| .done)))) <| .cond (.t 25) ( .seq (.reg [.o 4 .mv [.kb false]]) <| .ret) ( .skip))) <| .reg [.m 15 5, .o 16 (.bin .add 0) [.t 15, .k 1], .m 5 16]
def Pm : ACode := .seq (.reg [.o 4 .mv [.kb false]]) <| .seq (.seq (.reg [.m 6 0, .n 7 6, .m 8 1, .n 9 8, .o 10 (.bin .neq 0) [.t 7, .t 9]]) <| .cond (.t 10) ( .seq (.reg [.o 4 .mv [.kb false]]) <| .ret) ( .skip)) <| .seq (.seq (.reg [.o 5 .mv [.k 0]]) <| .block 0 ( .loop [(0, 1), (1, 1)] [0, 1, 5] LV)) <| .seq (.reg [.o 4 .mv [.kb true]]) <| .ret
theorem Wp : cFn Tryz.prog Pk 26 [.t 4] Pm := ⟨Tryz.f87, _, Tryz.func87, rfl, by kernel_rfl, by kernel_rfl, by kernel_rfl, by kernel_rfl⟩
@[simp] abbrev MZ : Nat := 86
def Ma : ACode := .seq (.reg [.o 2 .box [.t 0], .o 3 .box [.t 1], .o 4 .mv [.kb false]]) <| .seq (.seq (.reg [.f 5 0 2, .l 6 5, .f 7 0 3, .l 8 7, .o 9 (.bin .neq 0) [.t 6, .t 8]]) <| .cond (.t 9) ( .seq (.reg [.o 4 .mv [.kb false]]) <| .ret) ( .skip)) <| .seq (.seq (.reg [.f 10 1 2, .l 11 10, .f 12 1 3, .l 13 12, .o 14 (.bin .neq 0) [.t 11, .t 13]]) <| .cond (.t 14) ( .seq (.reg [.o 4 .mv [.kb false]]) <| .ret) ( .skip)) <| .seq (.seq (.reg [.f 15 2 2, .l 16 15, .f 17 2 3, .l 18 17, .o 19 (.call 151 []) [.t 16, .t 18], .o 20 (.un .not) [.t 19]]) <| .cond (.t 20) ( .seq (.reg [.o 4 .mv [.kb false]]) <| .ret) ( .skip)) <| .seq (.reg [.o 4 .mv [.kb true]]) <| .ret
theorem Tp : cFn Tryz.prog MZ 21 [.t 4] Ma := ⟨Tryz.f86, _, Tryz.func86, rfl, by kernel_rfl, by kernel_rfl, by kernel_rfl, by kernel_rfl⟩
@[simp] abbrev LW : Nat := 152
def H3 : ACode := .seq (.seq (.reg [.m 6 5, .m 7 0, .n 8 7, .o 9 (.bin .lss 0) [.t 6, .t 8]]) <| .cond (.t 9) ( .skip) ( .exit 0)) <| .seq (.block 1 ( .seq (.reg [.m 12 0, .m 13 5, .m 14 1, .o 15 (.bin .rem 0) [.t 14, .k 3], .o 16 (.bin .eql 0) [.t 15, .k 0], .o 17 (.iadr 1) [.t 12, .t 13], .s (.store 1) [.t 17, .t 16]]) <| .reg [.m 18 1, .o 19 (.bin .add 0) [.t 18, .k 1], .m 1 19])) <| .reg [.m 10 5, .o 11 (.bin .add 0) [.t 10, .k 1], .m 5 11]
def LX : ACode := .seq (.reg [.o 4 .mv [.k 0]]) <| .seq (.seq (.reg [.o 5 .mv [.k 0]]) <| .block 0 ( .loop [(0, 1)] [0, 1, 5, 21] H3)) <| .seq (.reg [.m 20 1, .m 4 20]) <| .ret
theorem SP : cFn Tryz.prog LW 21 [.t 4] LX := ⟨Tryz.f152, _, Tryz.func152, rfl, by kernel_rfl, by kernel_rfl, by kernel_rfl, by kernel_rfl⟩
@[simp] abbrev H4 : Nat := 90
def FW : ACode := .seq (.seq (.reg [.m 6 5, .m 7 0, .n 8 7, .o 9 (.bin .lss 0) [.t 6, .t 8]]) <| .cond (.t 9) ( .skip) ( .exit 0)) <| .seq (.block 1 ( .seq (.reg [.m 12 0, .m 13 5, .m 14 1, .o 15 (.iadr 1) [.t 12, .t 13], .s (.store 1) [.t 15, .t 14]]) <| .reg [.m 16 1, .o 17 (.bin .add 0) [.t 16, .k 1], .m 1 17])) <| .reg [.m 10 5, .o 11 (.bin .add 0) [.t 10, .k 1], .m 5 11]
def H5 : ACode := .seq (.reg [.o 4 .mv [.k 0]]) <| .seq (.seq (.reg [.o 5 .mv [.k 0]]) <| .block 0 ( .loop [(0, 1)] [0, 1, 5, 19] FW)) <| .seq (.reg [.m 18 1, .m 4 18]) <| .ret
theorem Mb : cFn Tryz.prog H4 19 [.t 4] H5 := ⟨Tryz.f90, _, Tryz.func90, rfl, by kernel_rfl, by kernel_rfl, by kernel_rfl, by kernel_rfl⟩
@[simp] abbrev KT : Nat := 89
def KU : ACode := .seq (.reg [.o 2 .box [.t 0], .o 4 .mv [.k 0]]) <| .seq (.reg [.f 5 2 2, .l 6 5, .m 7 1, .o 8 (.call 152 []) [.t 6, .t 7], .m 1 8]) <| .seq (.reg [.m 9 1, .m 4 9]) <| .ret
theorem RQ : cFn Tryz.prog KT 10 [.t 4] KU := ⟨Tryz.f89, _, Tryz.func89, rfl, by kernel_rfl, by kernel_rfl, by kernel_rfl, by kernel_rfl⟩
@[simp] abbrev H6 : Nat := 93
def FX : ACode := .seq (.seq (.reg [.m 6 5, .m 7 0, .n 8 7, .o 9 (.bin .lss 0) [.t 6, .t 8]]) <| .cond (.t 9) ( .skip) ( .exit 0)) <| .seq (.block 1 ( .seq (.seq (.reg [.m 12 0, .m 13 5, .o 14 (.iadr 1) [.t 12, .t 13], .l 15 14, .m 16 1, .o 17 (.bin .neq 0) [.t 15, .t 16]]) <| .cond (.t 17) ( .seq (.reg [.o 4 .mv [.k (-1)]]) <| .ret) ( .skip)) <| .reg [.m 18 1, .o 19 (.bin .add 0) [.t 18, .k 1], .m 1 19])) <| .reg [.m 10 5, .o 11 (.bin .add 0) [.t 10, .k 1], .m 5 11]
def H7 : ACode := .seq (.reg [.o 4 .mv [.k 0]]) <| .seq (.seq (.reg [.o 5 .mv [.k 0]]) <| .block 0 ( .loop [(0, 1)] [0, 1, 5] FX)) <| .seq (.reg [.m 20 1, .m 4 20]) <| .ret
theorem Mc : cFn Tryz.prog H6 21 [.t 4] H7 := ⟨Tryz.f93, _, Tryz.func93, rfl, by kernel_rfl, by kernel_rfl, by kernel_rfl, by kernel_rfl⟩
@[simp] abbrev LB : Nat := 106
def Tq : ACode := .seq (.reg [.o 6 .mv [.kb false]]) <| .seq (.reg [.m 7 0, .m 8 1, .o 9 (.bin .geq 0) [.t 7, .t 8], .m 10 9, .mg 11 0 10 true, .mg 12 2 10 true, .g 13 (.bin .leq 0) [.t 11, .t 12] 10 true, .o 14 .pick [.t 10, .t 13, .kb false], .m 6 14]) <| .ret
theorem ZK : cFn Tryz.prog LB 15 [.t 6] Tq := ⟨Tryz.f106, _, Tryz.func106, rfl, by kernel_rfl, by kernel_rfl, by kernel_rfl, by kernel_rfl⟩
@[simp] abbrev OD : Nat := 203
def KV : ACode := .seq (.seq (.reg [.m 5 4, .m 6 0, .n 7 6, .o 8 (.bin .lss 0) [.t 5, .t 7]]) <| .cond (.t 8) ( .skip) ( .exit 0)) <| .seq (.block 1 ( .seq (.reg [.m 11 0, .m 12 4, .o 13 (.iadr 1) [.t 11, .t 12], .l 14 13]) <| .cond (.t 14) ( .reg [.m 15 3, .o 16 (.bin .add 0) [.t 15, .k 1], .m 3 16]) ( .skip))) <| .reg [.m 9 4, .o 10 (.bin .add 0) [.t 9, .k 1], .m 4 10]
def OE : ACode := .seq (.reg [.o 2 .mv [.k 0]]) <| .seq (.reg [.o 3 .mv [.k 0]]) <| .seq (.seq (.reg [.o 4 .mv [.k 0]]) <| .block 0 ( .loop [(0, 1)] [0, 3, 4] KV)) <| .seq (.reg [.m 17 3, .m 2 17]) <| .ret
theorem VE : cFn Tryz.prog OD 18 [.t 2] OE := ⟨Tryz.f203, _, Tryz.func203, rfl, by kernel_rfl, by kernel_rfl, by kernel_rfl, by kernel_rfl⟩
@[simp] abbrev JF : Nat := 168
def JG : ACode := .seq (.reg [.o 1 .box [.t 0], .o 2 .mv [.kb false]]) <| .seq (.reg [.f 3 0 1, .l 4 3, .o 5 (.call 106 []) [.t 4, .k 1, .k 6], .m 6 5, .fg 7 1 1 6 true, .lg 8 7 6 true, .g 9 (.call 106 []) [.t 8, .k 1, .k 6] 6 true, .o 10 .pick [.t 6, .t 9, .kb false], .m 11 10, .fg 12 2 1 11 true, .lg 13 12 11 true, .g 14 (.len false) [.t 13] 11 true, .fg 15 0 1 11 true, .lg 16 15 11 true, .fg 17 1 1 11 true, .lg 18 17 11 true, .g 19 (.bin .mul 0) [.t 16, .t 18] 11 true, .g 20 (.bin .eql 0) [.t 14, .t 19] 11 true, .o 21 .pick [.t 11, .t 20, .kb false], .m 22 21, .fg 23 2 1 22 true, .lg 24 23 22 true, .g 25 (.call 203 []) [.t 24] 22 true, .g 26 (.bin .leq 0) [.t 25, .k 24] 22 true, .o 27 .pick [.t 22, .t 26, .kb false], .m 2 27]) <| .ret
theorem Pn : cFn Tryz.prog JF 28 [.t 2] JG := ⟨Tryz.f168, _, Tryz.func168, rfl, by kernel_rfl, by kernel_rfl, by kernel_rfl, by kernel_rfl⟩
@[simp] abbrev JH : Nat := 121
def CN : ACode := .seq (.seq (.reg [.m 17 5, .m 18 1, .n 19 18, .o 20 (.bin .lss 0) [.t 17, .t 19]]) <| .cond (.t 20) ( .skip) ( .exit 0)) <| .seq (.block 1 ( .seq (.reg [.f 23 2 2, .l 24 23, .m 25 5, .o 26 (.iadr 1) [.t 24, .t 25], .l 27 26, .m 28 27, .mg 29 1 28 true, .mg 30 5 28 true, .g 31 (.iadr 1) [.t 29, .t 30] 28 true, .lg 32 31 28 true, .g 33 (.call 106 []) [.t 32, .k 0, .k 6] 28 true, .g 34 (.un .not) [.t 33] 28 true, .o 35 .pick [.t 28, .t 34, .kb false], .m 36 35, .fg 37 2 2 36 false, .lg 38 37 36 false, .mg 39 5 36 false, .g 40 (.iadr 1) [.t 38, .t 39] 36 false, .lg 41 40 36 false, .g 42 (.un .not) [.t 41] 36 false, .mg 43 42 36 false, .mg 44 1 43 true, .mg 45 5 43 true, .g 46 (.iadr 1) [.t 44, .t 45] 43 true, .lg 47 46 43 true, .g 48 (.bin .neq 0) [.t 47, .k (-1)] 43 true, .g 49 .pick [.t 43, .t 48, .kb false] 36 false, .o 50 .pick [.t 36, .kb true, .t 49]]) <| .cond (.t 50) ( .seq (.reg [.o 4 .mv [.kb false]]) <| .ret) ( .skip))) <| .reg [.m 21 5, .o 22 (.bin .add 0) [.t 21, .k 1], .m 5 22]
def JI : ACode := .seq (.reg [.o 2 .box [.t 0], .o 4 .mv [.kb false]]) <| .seq (.seq (.reg [.la 6 3 2, .o 7 (.call 168 []) [.t 6], .o 8 (.un .not) [.t 7], .m 9 8, .mg 10 1 9 false, .g 11 (.len false) [.t 10] 9 false, .fg 12 2 2 9 false, .lg 13 12 9 false, .g 14 (.len false) [.t 13] 9 false, .g 15 (.bin .neq 0) [.t 11, .t 14] 9 false, .o 16 .pick [.t 9, .kb true, .t 15]]) <| .cond (.t 16) ( .seq (.reg [.o 4 .mv [.kb false]]) <| .ret) ( .skip)) <| .seq (.seq (.reg [.o 5 .mv [.k 0]]) <| .block 0 ( .loop [(1, 1)] [1, 2, 5] CN)) <| .seq (.reg [.o 4 .mv [.kb true]]) <| .ret
theorem Po : cFn Tryz.prog JH 51 [.t 4] JI := ⟨Tryz.f121, _, Tryz.func121, rfl, by kernel_rfl, by kernel_rfl, by kernel_rfl, by kernel_rfl⟩
@[simp] abbrev Hc : Nat := 169
def EQ : ACode := .seq (.reg [.o 3 .box [.t 0], .o 6 .mv [.k 0]]) <| .seq (.block 0 ( .seq (.draw ( .take (.m 8 2) <| .take (.o 9 (.bin .eql 0) [.t 8, .k 1]) <| .take (.m 10 9) <| .take (.mg 11 1 10 true) <| .take (.fg 12 0 3 10 true) <| .take (.fg 15 0 3 10 true) <| .alt (.lg 13 12 10 true) ( .take (.g 14 (.bin .rem 0) [.t 11, .t 13] 10 true) <| .al (.lg 16 15 10 true) ( .take (.g 17 (.bin .sub 0) [.t 16, .k 1] 10 true) <| .take (.g 18 (.bin .lss 0) [.t 14, .t 17] 10 true) <| .take (.o 19 .pick [.t 10, .t 18, .kb false]) <| .take (.m 7 19) <| .done)) <| .al (.lg 16 15 10 true) ( .take (.g 17 (.bin .sub 0) [.t 16, .k 1] 10 true) <| .al (.lg 13 12 10 true) ( .take (.g 14 (.bin .rem 0) [.t 11, .t 13] 10 true) <| .take (.g 18 (.bin .lss 0) [.t 14, .t 17] 10 true) <| .take (.o 19 .pick [.t 10, .t 18, .kb false]) <| .take (.m 7 19) <| .done)))) <| .cond (.t 7) ( .seq (.reg [.m 20 1, .o 21 (.bin .add 0) [.t 20, .k 1], .m 6 21]) <| .ret) ( .seq (.draw ( .take (.m 23 2) <| .take (.o 24 (.bin .eql 0) [.t 23, .k 2]) <| .take (.m 25 24) <| .take (.mg 26 1 25 true) <| .take (.fg 27 0 3 25 true) <| .take (.fg 30 1 3 25 true) <| .alt (.lg 28 27 25 true) ( .take (.g 29 (.bin .quo 0) [.t 26, .t 28] 25 true) <| .al (.lg 31 30 25 true) ( .take (.g 32 (.bin .sub 0) [.t 31, .k 1] 25 true) <| .take (.g 33 (.bin .lss 0) [.t 29, .t 32] 25 true) <| .take (.o 34 .pick [.t 25, .t 33, .kb false]) <| .take (.m 22 34) <| .done)) <| .al (.lg 31 30 25 true) ( .take (.g 32 (.bin .sub 0) [.t 31, .k 1] 25 true) <| .al (.lg 28 27 25 true) ( .take (.g 29 (.bin .quo 0) [.t 26, .t 28] 25 true) <| .take (.g 33 (.bin .lss 0) [.t 29, .t 32] 25 true) <| .take (.o 34 .pick [.t 25, .t 33, .kb false]) <| .take (.m 22 34) <| .done)))) <| .cond (.t 22) ( .seq (.reg [.m 35 1, .f 36 0 3, .l 37 36, .o 38 (.bin .add 0) [.t 35, .t 37], .m 6 38]) <| .ret) ( .seq (.reg [.m 40 2, .o 41 (.bin .eql 0) [.t 40, .k 3], .m 42 41, .mg 43 1 42 true, .fg 44 0 3 42 true, .lg 45 44 42 true, .g 46 (.bin .rem 0) [.t 43, .t 45] 42 true, .g 47 (.bin .gtr 0) [.t 46, .k 0] 42 true, .o 48 .pick [.t 42, .t 47, .kb false], .m 39 48]) <| .cond (.t 39) ( .seq (.reg [.m 49 1, .o 50 (.bin .sub 0) [.t 49, .k 1], .m 6 50]) <| .ret) ( .seq (.reg [.m 52 2, .o 53 (.bin .eql 0) [.t 52, .k 4], .m 54 53, .mg 55 1 54 true, .fg 56 0 3 54 true, .lg 57 56 54 true, .g 58 (.bin .quo 0) [.t 55, .t 57] 54 true, .g 59 (.bin .gtr 0) [.t 58, .k 0] 54 true, .o 60 .pick [.t 54, .t 59, .kb false], .m 51 60]) <| .cond (.t 51) ( .seq (.reg [.m 61 1, .f 62 0 3, .l 63 62, .o 64 (.bin .sub 0) [.t 61, .t 63], .m 6 64]) <| .ret) ( .skip)))))) <| .seq (.reg [.o 6 .mv [.k (-1)]]) <| .ret
theorem Wq : cFn Tryz.prog Hc 65 [.t 6] EQ := ⟨Tryz.f169, _, Tryz.func169, rfl, by kernel_rfl, by kernel_rfl, by kernel_rfl, by kernel_rfl⟩
@[simp] abbrev Pp : Nat := 170
def Pq : ACode := .seq (.reg [.o 2 .mv [.k 0]]) <| .seq (.reg [.m 3 0, .o 4 (.bin .add 0) [.t 3, .k 1], .o 5 (.bin .rem 0) [.t 4, .k 4], .o 6 (.bin .add 0) [.t 5, .k 1], .m 2 6]) <| .ret
theorem Wr : cFn Tryz.prog Pp 7 [.t 2] Pq := ⟨Tryz.f170, _, Tryz.func170, rfl, by kernel_rfl, by kernel_rfl, by kernel_rfl, by kernel_rfl⟩
@[simp] abbrev Pr : Nat := 122
abbrev H8 : Plan := .take (.g 70 (.bin .neq 0) [.t 64, .t 69] 60 false) <| .take (.o 71 .pick [.t 60, .kb true, .t 70]) <| .done
abbrev H9 : Plan := .al (.o 49 (.call 169 []) [.t 43, .t 44, .t 48]) ( .take (.m 6 49) <| .done)
abbrev IA : Plan := .al (.g 69 (.call 170 []) [.t 68] 60 false) H8
def CJ : ACode := .seq (.seq (.reg [.m 18 5, .m 19 1, .n 20 19, .o 21 (.bin .lss 0) [.t 18, .t 20]]) <| .cond (.t 21) ( .skip) ( .exit 0)) <| .seq (.block 1 ( .seq (.seq (.reg [.m 24 1, .m 25 5, .o 26 (.iadr 1) [.t 24, .t 25], .l 27 26, .o 28 (.bin .eql 0) [.t 27, .k 0]]) <| .cond (.t 28) ( .exit 1) ( .skip)) <| .seq (.seq (.reg [.m 29 1, .m 30 5, .o 31 (.iadr 1) [.t 29, .t 30], .l 32 31, .o 33 (.call 106 []) [.t 32, .k 1, .k 4], .o 34 (.un .not) [.t 33], .m 35 34, .fg 36 2 2 35 false, .lg 37 36 35 false, .mg 38 5 35 false, .g 39 (.iadr 1) [.t 37, .t 38] 35 false, .lg 40 39 35 false, .g 41 (.un .not) [.t 40] 35 false, .o 42 .pick [.t 35, .kb true, .t 41]]) <| .cond (.t 42) ( .seq (.reg [.o 4 .mv [.kb false]]) <| .ret) ( .skip)) <| .seq (.draw ( .take (.m 44 5) <| .take (.m 45 1) <| .take (.m 46 5) <| .take (.o 47 (.iadr 1) [.t 45, .t 46]) <| .alt (.la 43 3 2) ( .al (.l 48 47) H9) <| .al (.l 48 47) ( .al (.la 43 3 2) H9))) <| .seq (.draw ( .take (.m 50 6) <| .take (.o 51 (.bin .lss 0) [.t 50, .k 0]) <| .take (.m 52 51) <| .take (.fg 53 2 2 52 false) <| .take (.mg 55 6 52 false) <| .al (.lg 54 53 52 false) ( .take (.g 56 (.iadr 1) [.t 54, .t 55] 52 false) <| .al (.lg 57 56 52 false) ( .take (.g 58 (.un .not) [.t 57] 52 false) <| .take (.o 59 .pick [.t 52, .kb true, .t 58]) <| .take (.m 60 59) <| .take (.mg 61 1 60 false) <| .take (.mg 62 6 60 false) <| .take (.g 63 (.iadr 1) [.t 61, .t 62] 60 false) <| .take (.mg 65 1 60 false) <| .take (.mg 66 5 60 false) <| .take (.g 67 (.iadr 1) [.t 65, .t 66] 60 false) <| .alt (.lg 64 63 60 false) ( .al (.lg 68 67 60 false) IA) <| .al (.lg 68 67 60 false) ( .alt (.lg 64 63 60 false) IA <| .al (.g 69 (.call 170 []) [.t 68] 60 false) ( .al (.lg 64 63 60 false) H8)))))) <| .cond (.t 71) ( .seq (.reg [.o 4 .mv [.kb false]]) <| .ret) ( .skip))) <| .reg [.m 22 5, .o 23 (.bin .add 0) [.t 22, .k 1], .m 5 23]
def Ps : ACode := .seq (.reg [.o 2 .box [.t 0], .o 4 .mv [.kb false]]) <| .seq (.seq (.reg [.la 7 3 2, .o 8 (.call 168 []) [.t 7], .o 9 (.un .not) [.t 8], .m 10 9, .mg 11 1 10 false, .g 12 (.len false) [.t 11] 10 false, .fg 13 2 2 10 false, .lg 14 13 10 false, .g 15 (.len false) [.t 14] 10 false, .g 16 (.bin .neq 0) [.t 12, .t 15] 10 false, .o 17 .pick [.t 10, .kb true, .t 16]]) <| .cond (.t 17) ( .seq (.reg [.o 4 .mv [.kb false]]) <| .ret) ( .skip)) <| .seq (.seq (.reg [.o 5 .mv [.k 0]]) <| .block 0 ( .loop [(1, 1)] [1, 2, 5] CJ)) <| .seq (.reg [.o 4 .mv [.kb true]]) <| .ret
theorem Ws : cFn Tryz.prog Pr 72 [.t 4] Ps := ⟨Tryz.f122, _, Tryz.func122, rfl, by kernel_rfl, by kernel_rfl, by kernel_rfl, by kernel_rfl⟩
@[simp] abbrev Pt : Nat := 172
def Pu : ACode := .seq (.reg [.o 4 .mv [.k 0]]) <| .seq (.seq (.reg [.m 5 0, .o 6 (.call 106 []) [.t 5, .k 0, .k 6], .o 7 (.un .not) [.t 6], .m 8 7, .mg 9 1 8 false, .g 10 (.call 106 []) [.t 9, .k 0, .k 6] 8 false, .g 11 (.un .not) [.t 10] 8 false, .o 12 .pick [.t 8, .kb true, .t 11]]) <| .cond (.t 12) ( .seq (.reg [.o 4 .mv [.k (-1)]]) <| .ret) ( .skip)) <| .seq (.reg [.m 13 0, .m 14 1, .o 15 (.mnx true) [.t 13, .t 14], .o 16 (.bin .mul 0) [.k 7, .t 15], .m 17 0, .m 18 1, .o 19 (.mnx false) [.t 17, .t 18], .o 20 (.bin .add 0) [.t 16, .t 19], .m 4 20]) <| .ret
theorem Wt : cFn Tryz.prog Pt 21 [.t 4] Pu := ⟨Tryz.f172, _, Tryz.func172, rfl, by kernel_rfl, by kernel_rfl, by kernel_rfl, by kernel_rfl⟩
@[simp] abbrev OG : Nat := 124
abbrev Ee : Plan := .al (.o 53 (.call 172 []) [.t 42, .t 52]) ( .al (.o 54 (.bsl 1) [.t 53]) ( .al (.o 55 (.app 1 8 true) [.t 38, .t 54]) ( .take (.m 7 55) <| .done)))
abbrev Bp : Plan := .al (.o 50 (.call 169 []) [.t 44, .t 45, .t 49]) ( .take (.o 51 (.iadr 1) [.t 43, .t 50]) <| .al (.l 52 51) Ee)
abbrev HM : Plan := .alt (.l 42 41) Bp <| .al (.o 50 (.call 169 []) [.t 44, .t 45, .t 49]) ( .take (.o 51 (.iadr 1) [.t 43, .t 50]) <| .alt (.l 42 41) ( .al (.l 52 51) Ee) <| .al (.l 52 51) ( .al (.l 42 41) Ee))
def GT : ACode := .seq (.seq (.reg [.m 10 8, .m 11 2, .n 12 11, .o 13 (.bin .lss 0) [.t 10, .t 12], .m 14 13, .g 15 (.load true 3) [.t 3] 14 true, .mg 16 1 14 true, .g 17 (.call 121 []) [.t 15, .t 16] 14 true, .o 18 .pick [.t 14, .t 17, .kb false], .m 19 18, .g 20 (.load true 3) [.t 3] 19 true, .mg 21 2 19 true, .g 22 (.call 122 []) [.t 20, .t 21] 19 true, .o 23 .pick [.t 19, .t 22, .kb false]]) <| .cond (.t 23) ( .skip) ( .exit 0)) <| .seq (.block 1 ( .seq (.reg [.m 26 2, .m 27 8, .o 28 (.iadr 1) [.t 26, .t 27], .l 29 28, .o 30 (.bin .eql 0) [.t 29, .k 1], .m 31 30, .mg 32 2 31 false, .mg 33 8 31 false, .g 34 (.iadr 1) [.t 32, .t 33] 31 false, .lg 35 34 31 false, .g 36 (.bin .eql 0) [.t 35, .k 2] 31 false, .o 37 .pick [.t 31, .kb true, .t 36]]) <| .cond (.t 37) ( .draw ( .take (.m 38 7) <| .take (.m 39 1) <| .take (.m 40 8) <| .take (.o 41 (.iadr 1) [.t 39, .t 40]) <| .take (.m 43 1) <| .take (.m 45 8) <| .take (.m 46 2) <| .take (.m 47 8) <| .take (.o 48 (.iadr 1) [.t 46, .t 47]) <| .alt (.l 42 41) ( .alt (.la 44 3 3) ( .al (.l 49 48) Bp) <| .al (.l 49 48) ( .al (.la 44 3 3) Bp)) <| .alt (.la 44 3 3) ( .alt (.l 42 41) ( .al (.l 49 48) Bp) <| .al (.l 49 48) HM) <| .al (.l 49 48) ( .alt (.l 42 41) ( .al (.la 44 3 3) Bp) <| .al (.la 44 3 3) HM))) ( .skip))) <| .reg [.m 24 8, .o 25 (.bin .add 0) [.t 24, .k 1], .m 8 25]
def OH : ACode := .seq (.reg [.o 3 .box [.t 0], .o 6 .mv [.c (.os 1 [])]]) <| .seq (.reg [.o 9 (.bsl 1) [], .m 7 9]) <| .seq (.seq (.reg [.o 8 .mv [.k 0]]) <| .block 0 ( .loop [(1, 1), (2, 1), (7, 1)] [1, 2, 3, 7, 8] GT)) <| .seq (.reg [.m 56 7, .m 6 56]) <| .ret
theorem VF : cFn Tryz.prog OG 57 [.t 6] OH := ⟨Tryz.f124, _, Tryz.func124, rfl, by kernel_rfl, by kernel_rfl, by kernel_rfl, by kernel_rfl⟩
@[simp] abbrev Pv : Nat := 63
def YP : ACode := .seq (.reg [.o 6 .mv [.kb false]]) <| .seq (.reg [.m 7 0, .m 8 1, .o 9 (.bin .geq 0) [.t 7, .t 8], .m 10 9, .mg 11 0 10 true, .mg 12 2 10 true, .g 13 (.bin .leq 0) [.t 11, .t 12] 10 true, .o 14 .pick [.t 10, .t 13, .kb false], .m 6 14]) <| .ret
theorem c8 : cFn Tryz.prog Pv 15 [.t 6] YP := ⟨Tryz.f63, _, Tryz.func63, rfl, by kernel_rfl, by kernel_rfl, by kernel_rfl, by kernel_rfl⟩
@[simp] abbrev Tr : Nat := 109
def OI : ACode := .seq (.reg [.o 9 (.bin .lss 0) [.t 8, .t 7]]) <| .seq (.cond (.t 9) ( .skip) ( .exit 0)) <| .seq (.block 1 ( .seq (.reg [.o 10 (.iadr 1) [.t 6, .t 8], .l 11 10, .m 5 11]) <| .seq (.reg [.m 12 5]) <| .cond (.t 12) ( .reg [.m 13 3, .o 14 (.bin .add 0) [.t 13, .k 1], .m 3 14]) ( .skip))) <| .reg [.o 15 (.bin .add 0) [.t 8, .k 1], .m 8 15]
def Ts : ACode := .seq (.reg [.o 2 .mv [.k 0]]) <| .seq (.reg [.o 3 .mv [.k 0]]) <| .seq (.seq (.reg [.m 6 0, .n 7 6, .o 8 .mv [.k 0]]) <| .block 0 ( .loop [(6, 1)] [3, 6, 7, 8] OI)) <| .seq (.reg [.m 16 3, .m 2 16]) <| .ret
theorem ZL : cFn Tryz.prog Tr 17 [.t 2] Ts := ⟨Tryz.f109, _, Tryz.func109, rfl, by kernel_rfl, by kernel_rfl, by kernel_rfl, by kernel_rfl⟩
@[simp] abbrev JJ : Nat := 108
def JK : ACode := .seq (.reg [.o 1 .box [.t 0], .o 2 .mv [.kb false]]) <| .seq (.reg [.f 3 0 1, .l 4 3, .o 5 (.call 63 []) [.t 4, .k 1, .k 6], .m 6 5, .fg 7 1 1 6 true, .lg 8 7 6 true, .g 9 (.call 63 []) [.t 8, .k 1, .k 6] 6 true, .o 10 .pick [.t 6, .t 9, .kb false], .m 11 10, .fg 12 2 1 11 true, .lg 13 12 11 true, .g 14 (.len false) [.t 13] 11 true, .fg 15 0 1 11 true, .lg 16 15 11 true, .fg 17 1 1 11 true, .lg 18 17 11 true, .g 19 (.bin .mul 0) [.t 16, .t 18] 11 true, .g 20 (.bin .eql 0) [.t 14, .t 19] 11 true, .o 21 .pick [.t 11, .t 20, .kb false], .m 22 21, .fg 23 2 1 22 true, .lg 24 23 22 true, .g 25 (.call 109 []) [.t 24] 22 true, .g 26 (.bin .leq 0) [.t 25, .k 24] 22 true, .o 27 .pick [.t 22, .t 26, .kb false], .m 2 27]) <| .ret
theorem Pw : cFn Tryz.prog JJ 28 [.t 2] JK := ⟨Tryz.f108, _, Tryz.func108, rfl, by kernel_rfl, by kernel_rfl, by kernel_rfl, by kernel_rfl⟩
@[simp] abbrev Px : Nat := 156
def E3 : ACode := .seq (.reg [.o 16 (.bin .lss 0) [.t 15, .t 14]]) <| .seq (.cond (.t 16) ( .skip) ( .exit 0)) <| .seq (.block 1 ( .seq (.reg [.m 17 15, .o 18 (.iadr 1) [.t 13, .t 15], .l 19 18, .m 5 17, .m 6 19]) <| .seq (.reg [.f 20 2 2, .l 21 20, .m 22 5, .o 23 (.iadr 1) [.t 21, .t 22], .l 24 23, .m 25 24, .mg 26 6 25 true, .g 27 (.call 63 []) [.t 26, .k 0, .k 6] 25 true, .g 28 (.un .not) [.t 27] 25 true, .o 29 .pick [.t 25, .t 28, .kb false], .m 30 29, .fg 31 2 2 30 false, .lg 32 31 30 false, .mg 33 5 30 false, .g 34 (.iadr 1) [.t 32, .t 33] 30 false, .lg 35 34 30 false, .g 36 (.un .not) [.t 35] 30 false, .mg 37 36 30 false, .mg 38 6 37 true, .g 39 (.bin .neq 0) [.t 38, .k (-1)] 37 true, .g 40 .pick [.t 37, .t 39, .kb false] 30 false, .o 41 .pick [.t 30, .kb true, .t 40]]) <| .cond (.t 41) ( .seq (.reg [.o 4 .mv [.kb false]]) <| .ret) ( .skip))) <| .reg [.o 42 (.bin .add 0) [.t 15, .k 1], .m 15 42]
def Py : ACode := .seq (.reg [.o 2 .box [.t 0], .o 4 .mv [.kb false]]) <| .seq (.seq (.reg [.m 7 1, .n 8 7, .f 9 2 2, .l 10 9, .n 11 10, .o 12 (.bin .neq 0) [.t 8, .t 11]]) <| .cond (.t 12) ( .seq (.reg [.o 4 .mv [.kb false]]) <| .ret) ( .skip)) <| .seq (.seq (.reg [.m 13 1, .n 14 13, .o 15 .mv [.k 0]]) <| .block 0 ( .loop [(13, 1)] [2, 13, 14, 15] E3)) <| .seq (.reg [.o 4 .mv [.kb true]]) <| .ret
theorem Wu : cFn Tryz.prog Px 43 [.t 4] Py := ⟨Tryz.f156, _, Tryz.func156, rfl, by kernel_rfl, by kernel_rfl, by kernel_rfl, by kernel_rfl⟩
@[simp] abbrev JL : Nat := 102
def JM : ACode := .seq (.reg [.o 2 .box [.t 0], .o 4 .mv [.kb false]]) <| .seq (.reg [.la 5 3 2, .o 6 (.call 108 []) [.t 5], .m 7 6, .g 8 (.load true 3) [.t 2] 7 true, .mg 9 1 7 true, .g 10 (.call 156 []) [.t 8, .t 9] 7 true, .o 11 .pick [.t 7, .t 10, .kb false], .m 4 11]) <| .ret
theorem Pz : cFn Tryz.prog JL 12 [.t 4] JM := ⟨Tryz.f102, _, Tryz.func102, rfl, by kernel_rfl, by kernel_rfl, by kernel_rfl, by kernel_rfl⟩
@[simp] abbrev LY : Nat := 245
def LZ : ACode := .seq (.reg [.o 2 .box [.t 0], .o 4 .mv [.k 0], .o 5 .mv [.k 0]]) <| .seq (.draw ( .take (.m 6 1) <| .take (.f 7 0 2) <| .take (.m 10 1) <| .take (.f 11 0 2) <| .alt (.l 8 7) ( .take (.o 9 (.bin .rem 0) [.t 6, .t 8]) <| .take (.m 4 9) <| .al (.l 12 11) ( .take (.o 13 (.bin .quo 0) [.t 10, .t 12]) <| .take (.m 5 13) <| .done)) <| .al (.l 12 11) ( .take (.o 13 (.bin .quo 0) [.t 10, .t 12]) <| .al (.l 8 7) ( .take (.o 9 (.bin .rem 0) [.t 6, .t 8]) <| .take (.m 4 9) <| .take (.m 5 13) <| .done)))) <| .ret
theorem SQ : cFn Tryz.prog LY 14 [.t 4, .t 5] LZ := ⟨Tryz.f245, _, Tryz.func245, rfl, by kernel_rfl, by kernel_rfl, by kernel_rfl, by kernel_rfl⟩
@[simp] abbrev Dj : Nat := 205
def JN : ACode := .seq (.reg [.o 3 .box [.t 0], .o 6 .mv [.k 0]]) <| .seq (.reg [.la 10 3 3, .m 11 1, .o 12 (.call 245 []) [.t 10, .t 11], .m 9 12, .e 13 0 9, .e 14 1 9, .m 7 13, .m 8 14]) <| .seq (.seq (.reg [.m 15 2]) <| .block 0 ( .seq (.reg [.o 17 (.bin .eql 0) [.t 15, .k 1], .m 16 17]) <| .cond (.t 16) ( .reg [.m 18 7, .o 19 (.bin .add 0) [.t 18, .k 1], .m 7 19]) ( .seq (.reg [.o 21 (.bin .eql 0) [.t 15, .k 2], .m 20 21]) <| .cond (.t 20) ( .reg [.m 22 8, .o 23 (.bin .add 0) [.t 22, .k 1], .m 8 23]) ( .seq (.reg [.o 25 (.bin .eql 0) [.t 15, .k 3], .m 24 25]) <| .cond (.t 24) ( .reg [.m 26 7, .o 27 (.bin .sub 0) [.t 26, .k 1], .m 7 27]) ( .seq (.reg [.o 29 (.bin .eql 0) [.t 15, .k 4], .m 28 29]) <| .cond (.t 28) ( .reg [.m 30 8, .o 31 (.bin .sub 0) [.t 30, .k 1], .m 8 31]) ( .seq (.reg [.o 6 .mv [.k (-1)]]) <| .ret)))))) <| .seq (.seq (.reg [.m 32 7, .f 33 0 3, .l 34 33, .o 35 (.bin .sub 0) [.t 34, .k 1], .o 36 (.call 63 []) [.t 32, .k 0, .t 35], .o 37 (.un .not) [.t 36], .m 38 37, .mg 39 8 38 false, .fg 40 1 3 38 false, .lg 41 40 38 false, .g 42 (.bin .sub 0) [.t 41, .k 1] 38 false, .g 43 (.call 63 []) [.t 39, .k 0, .t 42] 38 false, .g 44 (.un .not) [.t 43] 38 false, .o 45 .pick [.t 38, .kb true, .t 44]]) <| .cond (.t 45) ( .seq (.reg [.o 6 .mv [.k (-1)]]) <| .ret) ( .skip)) <| .seq (.reg [.m 46 8, .f 47 0 3, .l 48 47, .o 49 (.bin .mul 0) [.t 46, .t 48], .m 50 7, .o 51 (.bin .add 0) [.t 49, .t 50], .m 6 51]) <| .ret
theorem P0 : cFn Tryz.prog Dj 52 [.t 6] JN := ⟨Tryz.f205, _, Tryz.func205, rfl, by kernel_rfl, by kernel_rfl, by kernel_rfl, by kernel_rfl⟩
@[simp] abbrev Tt : Nat := 206
def Tu : ACode := .seq (.reg [.o 2 .mv [.k 0]]) <| .seq (.reg [.m 3 0, .o 4 (.bin .add 0) [.t 3, .k 1], .o 5 (.bin .rem 0) [.t 4, .k 4], .o 6 (.bin .add 0) [.t 5, .k 1], .m 2 6]) <| .ret
theorem ZM : cFn Tryz.prog Tt 7 [.t 2] Tu := ⟨Tryz.f206, _, Tryz.func206, rfl, by kernel_rfl, by kernel_rfl, by kernel_rfl, by kernel_rfl⟩
@[simp] abbrev JO : Nat := 154
abbrev FH : Plan := .take (.g 52 (.bin .neq 0) [.t 49, .t 51] 45 false) <| .take (.o 53 .pick [.t 45, .kb true, .t 52]) <| .done
def CO : ACode := .seq (.reg [.o 17 (.bin .lss 0) [.t 16, .t 15]]) <| .seq (.cond (.t 17) ( .skip) ( .exit 0)) <| .seq (.block 1 ( .seq (.reg [.m 18 16, .o 19 (.iadr 1) [.t 14, .t 16], .l 20 19, .m 5 18, .m 6 20]) <| .seq (.seq (.reg [.m 21 6, .o 22 (.bin .eql 0) [.t 21, .k 0]]) <| .cond (.t 22) ( .exit 1) ( .skip)) <| .seq (.reg [.la 23 3 2, .m 24 5, .m 25 6, .o 26 (.call 205 []) [.t 23, .t 24, .t 25], .m 7 26]) <| .seq (.draw ( .take (.m 27 7) <| .take (.o 28 (.bin .lss 0) [.t 27, .k 0]) <| .take (.m 29 28) <| .take (.fg 30 2 2 29 false) <| .take (.mg 32 5 29 false) <| .al (.lg 31 30 29 false) ( .take (.g 33 (.iadr 1) [.t 31, .t 32] 29 false) <| .al (.lg 34 33 29 false) ( .take (.g 35 (.un .not) [.t 34] 29 false) <| .take (.o 36 .pick [.t 29, .kb true, .t 35]) <| .take (.m 37 36) <| .take (.fg 38 2 2 37 false) <| .take (.mg 40 7 37 false) <| .al (.lg 39 38 37 false) ( .take (.g 41 (.iadr 1) [.t 39, .t 40] 37 false) <| .al (.lg 42 41 37 false) ( .take (.g 43 (.un .not) [.t 42] 37 false) <| .take (.o 44 .pick [.t 37, .kb true, .t 43]) <| .take (.m 45 44) <| .take (.mg 46 1 45 false) <| .take (.mg 47 7 45 false) <| .take (.g 48 (.iadr 1) [.t 46, .t 47] 45 false) <| .take (.mg 50 6 45 false) <| .alt (.lg 49 48 45 false) ( .al (.g 51 (.call 206 []) [.t 50] 45 false) FH) <| .al (.g 51 (.call 206 []) [.t 50] 45 false) ( .al (.lg 49 48 45 false) FH))))))) <| .cond (.t 53) ( .seq (.reg [.o 4 .mv [.kb false]]) <| .ret) ( .skip))) <| .reg [.o 54 (.bin .add 0) [.t 16, .k 1], .m 16 54]
def JP : ACode := .seq (.reg [.o 2 .box [.t 0], .o 4 .mv [.kb false]]) <| .seq (.seq (.reg [.m 8 1, .n 9 8, .f 10 2 2, .l 11 10, .n 12 11, .o 13 (.bin .neq 0) [.t 9, .t 12]]) <| .cond (.t 13) ( .seq (.reg [.o 4 .mv [.kb false]]) <| .ret) ( .skip)) <| .seq (.seq (.reg [.m 14 1, .n 15 14, .o 16 .mv [.k 0]]) <| .block 0 ( .loop [(1, 1), (14, 1)] [1, 2, 14, 15, 16] CO)) <| .seq (.reg [.o 4 .mv [.kb true]]) <| .ret
theorem P1 : cFn Tryz.prog JO 55 [.t 4] JP := ⟨Tryz.f154, _, Tryz.func154, rfl, by kernel_rfl, by kernel_rfl, by kernel_rfl, by kernel_rfl⟩
@[simp] abbrev Tv : Nat := 240
def Tw : ACode := .seq (.reg [.o 4 .mv [.k 0]]) <| .seq (.reg [.m 5 0, .m 6 1, .o 7 (.mnx true) [.t 5, .t 6], .o 8 (.bin .mul 0) [.k 7, .t 7], .m 9 0, .m 10 1, .o 11 (.mnx false) [.t 9, .t 10], .o 12 (.bin .add 0) [.t 8, .t 11], .m 4 12]) <| .ret
theorem ZN : cFn Tryz.prog Tv 13 [.t 4] Tw := ⟨Tryz.f240, _, Tryz.func240, rfl, by kernel_rfl, by kernel_rfl, by kernel_rfl, by kernel_rfl⟩
@[simp] abbrev Gu : Nat := 175
def Gv : ACode := .seq (.reg [.o 2 .mv [.c (.os 1 [])]]) <| .seq (.reg [.m 3 0, .m 4 0, .n 5 4, .m 6 0, .n 7 6, .o 8 (.slice 1 false false true true) [.t 3, .t 5, .t 7], .m 2 8]) <| .ret
theorem Md : cFn Tryz.prog Gu 9 [.t 2] Gv := ⟨Tryz.f175, _, Tryz.func175, rfl, by kernel_rfl, by kernel_rfl, by kernel_rfl, by kernel_rfl⟩
@[simp] abbrev IB : Nat := 195
abbrev Ck : Plan := .al (.o 35 (.call 240 []) [.t 27, .t 34]) ( .al (.o 36 (.bsl 1) [.t 35]) ( .al (.o 37 (.app 1 8 true) [.t 23, .t 36]) ( .take (.m 7 37) <| .done)))
abbrev Ep : Plan := .al (.o 32 (.call 205 []) [.t 29, .t 30, .t 31]) ( .take (.o 33 (.iadr 1) [.t 28, .t 32]) <| .al (.l 34 33) Ck)
def CF : ACode := .seq (.reg [.o 13 (.bin .lss 0) [.t 12, .t 11]]) <| .seq (.cond (.t 13) ( .skip) ( .exit 0)) <| .seq (.block 1 ( .seq (.reg [.m 14 12, .o 15 (.iadr 1) [.t 10, .t 12], .l 16 15, .m 8 14, .m 9 16]) <| .seq (.reg [.m 17 9, .o 18 (.bin .eql 0) [.t 17, .k 1], .m 19 18, .mg 20 9 19 false, .g 21 (.bin .eql 0) [.t 20, .k 2] 19 false, .o 22 .pick [.t 19, .kb true, .t 21]]) <| .cond (.t 22) ( .draw ( .take (.m 23 7) <| .take (.m 24 1) <| .take (.m 25 8) <| .take (.o 26 (.iadr 1) [.t 24, .t 25]) <| .take (.m 28 1) <| .take (.m 30 8) <| .take (.m 31 9) <| .alt (.l 27 26) ( .al (.la 29 3 3) Ep) <| .al (.la 29 3 3) ( .alt (.l 27 26) Ep <| .al (.o 32 (.call 205 []) [.t 29, .t 30, .t 31]) ( .take (.o 33 (.iadr 1) [.t 28, .t 32]) <| .alt (.l 27 26) ( .al (.l 34 33) Ck) <| .al (.l 34 33) ( .al (.l 27 26) Ck))))) ( .skip))) <| .reg [.o 38 (.bin .add 0) [.t 12, .k 1], .m 12 38]
def IC : ACode := .seq (.reg [.o 3 .box [.t 0], .o 6 .mv [.c (.os 1 [])]]) <| .seq (.reg [.o 7 .mv [.c (.os 1 [])]]) <| .seq (.seq (.reg [.m 10 2, .n 11 10, .o 12 .mv [.k 0]]) <| .block 0 ( .loop [(1, 1), (7, 1), (10, 1)] [1, 3, 7, 10, 11, 12] CF)) <| .seq (.reg [.m 39 7, .o 40 (.call 175 []) [.t 39], .m 6 40]) <| .ret
theorem O3 : cFn Tryz.prog IB 41 [.t 6] IC := ⟨Tryz.f195, _, Tryz.func195, rfl, by kernel_rfl, by kernel_rfl, by kernel_rfl, by kernel_rfl⟩
@[simp] def md0 (f : Nat) : List Bool := if f = 89 ∨ f = 90 ∨ f = 152 ∨ f = 27 ∨ f = 91 then [true, false] else if f = 175 ∨ f = 173 ∨ f = 188 ∨ f = 196 ∨ f = 197 then [true] else []
theorem VG (bs : List Bool) (left : Int) (h0 : 0 ≤ left) (h1 : left < 2 ^ 60) (hb : bs.length ≤ 9223372036854775807) :
  SoundAt Tryz.prog N7 [.sl 1 1 (AC bs), .v (.int .i64 left)] (.v (.int .i64 (if left < bs.length then -1 else left - bs.length))) [.bot, .bot] := by
 refine AE (md := md0) (ms := [false, false]) VB (by simp) ?_
 simp [N8]
 omega
theorem Tx (W T : Int) (bs : List Bool) (left : Int) (h0 : 0 ≤ left) (h1 : left < 2 ^ 60) (hb : bs.length ≤ 9223372036854775807) :
  SoundAt Tryz.prog MV [.agg [.v (.int .i64 W), .v (.int .i64 T), .sl 1 1 (AC bs)], .v (.int .i64 left)] (.v (.int .i64 (if left < bs.length then -1 else left - bs.length))) [.bot, .bot] := by
 refine AE (md := md0) (ms := [false, false]) Tn (by simp) ?_
 simp [MW]
 refine AA (VG bs left h0 h1 hb) ?_
 simp
 split <;> omega
theorem Wv {α : Type} (xs : List α) (z d : α) (i : Nat) (hi : i < xs.length) : (xs.take i ++ List.replicate (xs.length - i) z).set i (xs.getD i d) = xs.take (i + 1) ++ List.replicate (xs.length - (i + 1)) z := by
 have hd : xs.getD i d = xs[i] := by simp [hi]
 have hl : (List.take i xs).length = i := by simp; omega
 rw [List.set_append_right _ _ (by omega), List.take_succ_eq_append_getElem hi, hd, hl, Nat.sub_self, show xs.length - i = (xs.length - (i + 1)) + 1 by omega, List.replicate_succ, List.set_cons_zero, List.append_assoc]
 rfl
theorem VH (bs : List Bool) (hb : bs.length < 2 ^ 40) :
  SoundAt Tryz.prog N9 [.sl 1 1 (AC bs)] (.os 1 (AC bs)) [.bot] := by
 refine AE (md := md0) (ms := [false]) VC (by simp) ?_
 simp [OA]
 refine ⟨by omega, ?_⟩
 refine AF (fun m E H => ∃ i : Nat, m = bs.length - i ∧ i ≤ bs.length ∧ H = [some (.arr 1 (AC (bs.take i ++ List.replicate (bs.length - i) false)))] ∧ E = [(0, .sl 1 1 (AC bs)), (3, .ls 1 0 0 bs.length), (4, .v (.int .i64 i))]) bs.length ⟨0, by simp [cd]⟩ ?_
 rintro J hJ m E H ⟨i, rfl, hi, rfl, rfl⟩
 simp [KR]
 refine ⟨fun h => ?_, fun h => ?_⟩
 ·simp [h]
  refine ⟨by omega, by omega, _, ?_, hJ _ _ _ ⟨i + 1, rfl, h, ?_, rfl⟩⟩
  ·omega
  ·rw [X7, i6, Wv bs false false i h]
 ·have : i = bs.length := by omega
  subst this
  simp
theorem LC (bs : List Int) (hb : bs.length < 2 ^ 40) :
  SoundAt Tryz.prog Ph [.sl 1 1 (AB bs)] (.os 1 (AB bs)) [.bot] := by
 refine AE (md := md0) (ms := [false]) Wo (by simp) ?_
 simp [Pj]
 refine ⟨by omega, ?_⟩
 refine AF (fun m E H => ∃ i : Nat, m = bs.length - i ∧ i ≤ bs.length ∧ H = [some (.arr 1 (AB (bs.take i ++ List.replicate (bs.length - i) 0)))] ∧ E = [(0, .sl 1 1 (AB bs)), (3, .ls 1 0 0 bs.length), (4, .v (.int .i64 i))]) bs.length ⟨0, by simp [aA]⟩ ?_
 rintro J hJ m E H ⟨i, rfl, hi, rfl, rfl⟩
 simp [LU]
 refine ⟨fun h => ?_, fun h => ?_⟩
 ·simp [h]
  refine ⟨by omega, by omega, _, ?_, hJ _ _ _ ⟨i + 1, rfl, h, ?_, rfl⟩⟩
  ·omega
  ·rw [EP, iz, Wv bs 0 0 i h]
 ·have : i = bs.length := by omega
  subst this
  simp
theorem Ty (W T : Int) (bs : List Bool) (hb : bs.length < 2 ^ 40) :
  SoundAt Tryz.prog MX [.agg [.v (.int .i64 W), .v (.int .i64 T), .sl 1 1 (AC bs)]] (.agg [.v (.int .i64 W), .v (.int .i64 T), .os 1 (AC bs)]) [.bot] := by
 refine AE (md := md0) (ms := [false]) To (by simp) ?_
 simp [MY]
 refine AA (VH bs hb) ?_
 simp
theorem D4 (xs : List Int) : SoundAt Tryz.prog Gu [.os 1 (AB xs)] (.os 1 (AB xs)) [.bot] := by
 refine AE (md := md0) (ms := [false]) Md (by simp) ?_
 simp [Gv]
theorem Tz {α : Type} (X bs : List α) (i : Nat) (v : α) (hX : X.length = i) (hi : i < bs.length) : (X ++ bs.drop i).set i v = (X ++ [v]) ++ bs.drop (i + 1) := by
 rw [List.set_append_right _ _ (by omega), hX, Nat.sub_self, List.drop_eq_getElem_cons hi, List.set_cons_zero, List.append_assoc]
 rfl
def D5 (n : Nat) (k : Int) : List Bool := (List.range n).map fun (j : Nat) => (k + j) % 3 == 0
def A9 (n : Nat) (k : Int) : List Int := (List.range n).map fun (j : Nat) => k + j
theorem VI (xs ys : List Bool) (ha : xs.length < 2 ^ 40) :
  SoundAt Tryz.prog OB [.sl 1 1 (AC xs), .sl 1 1 (AC ys)] (.v (.bool (decide (xs = ys)))) [.bot, .bot] := by
 refine AE (md := md0) (ms := [false, false]) VD (by simp) ?_
 simp [OC]
 refine ⟨fun h => ?_, fun hl => ?_⟩
 ·intro e; subst e; exact h rfl
 refine AF (fun m E H => ∃ i : Nat, m = xs.length - i ∧ i ≤ xs.length ∧ xs.take i = ys.take i ∧ H = [] ∧ E = [(0, .sl 1 1 (AC xs)), (1, .sl 1 1 (AC ys)), (5, .v (.int .i64 i))]) xs.length ⟨0, by simp⟩ ?_
 rintro J hJ m E H ⟨i, rfl, hi, he, rfl, rfl⟩
 simp [KS]
 refine ⟨fun h => ?_, fun h => ?_⟩
 ·have h2 : i < ys.length := by omega
  simp [h, h2]
  have key : (atb xs i = atb ys i) → xs.take (i + 1) = ys.take (i + 1) := by
   intro e
   rw [List.take_succ_eq_append_getElem h, List.take_succ_eq_append_getElem (by omega), he]
   simp [atb, h, show i < ys.length by omega] at e
   rw [e]
  have key2 : ¬ (atb xs i = atb ys i) → xs ≠ ys := fun e e2 => e (by rw [e2])
  refine ⟨fun e => ?_, fun e => ?_⟩
  ·exact key2 (by simpa using e)
  ·exact ⟨by omega, _, by omega, hJ _ _ _ ⟨i + 1, rfl, h, key (by simpa using e), rfl, rfl⟩⟩
 ·have h1 : i = xs.length := by omega
  subst h1
  rw [List.take_length] at he
  rw [he]
  exact List.take_of_length_le (by omega)
theorem LD (xs ys : List Int) (ha : xs.length < 2 ^ 40) :
  SoundAt Tryz.prog Pk [.sl 1 1 (AB xs), .sl 1 1 (AB ys)] (.v (.bool (decide (xs = ys)))) [.bot, .bot] := by
 refine AE (md := md0) (ms := [false, false]) Wp (by simp) ?_
 simp [Pm]
 refine ⟨fun h => ?_, fun hl => ?_⟩
 ·intro e; subst e; exact h rfl
 refine AF (fun m E H => ∃ i : Nat, m = xs.length - i ∧ i ≤ xs.length ∧ xs.take i = ys.take i ∧ H = [] ∧ E = [(0, .sl 1 1 (AB xs)), (1, .sl 1 1 (AB ys)), (5, .v (.int .i64 i))]) xs.length ⟨0, by simp⟩ ?_
 rintro J hJ m E H ⟨i, rfl, hi, he, rfl, rfl⟩
 simp [LV]
 refine ⟨fun h => ?_, fun h => ?_⟩
 ·have h2 : i < ys.length := by omega
  simp [h, h2]
  have key : (ati xs i = ati ys i) → xs.take (i + 1) = ys.take (i + 1) := by
   intro e
   rw [List.take_succ_eq_append_getElem h, List.take_succ_eq_append_getElem (by omega), he]
   simp [ati, h, show i < ys.length by omega] at e
   rw [e]
  have key2 : ¬ (ati xs i = ati ys i) → xs ≠ ys := fun e e2 => e (by rw [e2])
  refine ⟨fun e => ?_, fun e => ?_⟩
  ·exact key2 (by simpa using e)
  ·exact ⟨by omega, _, by omega, hJ _ _ _ ⟨i + 1, rfl, h, key (by simpa using e), rfl, rfl⟩⟩
 ·have h1 : i = xs.length := by omega
  subst h1
  rw [List.take_length] at he
  rw [he]
  exact List.take_of_length_le (by omega)
theorem SR (bs : List Bool) (k : Int) (h0 : 0 ≤ k) (h1 : k < 2 ^ 40) (hb : bs.length < 2 ^ 40) :
  SoundAt Tryz.prog LW [.os 1 (AC bs), .v (.int .i64 k)] (.v (.int .i64 (k + bs.length))) [.os 1 (AC (D5 bs.length k)), .bot] := by
 refine AE (md := md0) (ms := [true, false]) SP (by simp) ?_
 simp [LX]
 refine AF (fun m E H => ∃ i : Nat, m = bs.length - i ∧ i ≤ bs.length ∧ H = [some (.arr 1 (AC (D5 i k ++ bs.drop i)))] ∧ E = [(0, .ls 1 0 0 bs.length), (1, .v (.int .i64 (k + i))), (5, .v (.int .i64 i)), (21, .ls 1 0 0 bs.length)]) bs.length ⟨0, by simp [D5]⟩ ?_
 rintro J hJ m E H ⟨i, rfl, hi, rfl, rfl⟩
 simp [H3]
 refine ⟨fun h => ?_, fun h => ?_⟩
 ·simp [h]
  have e : (AC (D5 i k ++ bs.drop i)).set i (.v (.bool ((k + i) % 3 == 0))) = AC (D5 (i + 1) k ++ bs.drop (i + 1)) := by
   rw [X7, Tz _ _ _ _ (by simp [D5]) h, D5, D5, List.range_succ, List.map_append]; rfl
  simp [D5] at e ⊢
  refine ⟨by omega, by omega, by omega, by omega, _, ?_, hJ _ _ _ ⟨i + 1, rfl, h, ?_, ?_⟩⟩
  ·omega
  ·simp [D5, e]
  ·simp; omega
 ·have : i = bs.length := by omega
  subst this
  simp [D5]
theorem Me (bs : List Int) (k : Int) (h0 : 0 ≤ k) (h1 : k < 2 ^ 40) (hb : bs.length < 2 ^ 40) :
  SoundAt Tryz.prog H4 [.os 1 (AB bs), .v (.int .i64 k)] (.v (.int .i64 (k + bs.length))) [.os 1 (AB (A9 bs.length k)), .bot] := by
 refine AE (md := md0) (ms := [true, false]) Mb (by simp) ?_
 simp [H5]
 refine AF (fun m E H => ∃ i : Nat, m = bs.length - i ∧ i ≤ bs.length ∧ H = [some (.arr 1 (AB (A9 i k ++ bs.drop i)))] ∧ E = [(0, .ls 1 0 0 bs.length), (1, .v (.int .i64 (k + i))), (5, .v (.int .i64 i)), (19, .ls 1 0 0 bs.length)]) bs.length ⟨0, by simp [A9]⟩ ?_
 rintro J hJ m E H ⟨i, rfl, hi, rfl, rfl⟩
 simp [FW]
 refine ⟨fun h => ?_, fun h => ?_⟩
 ·simp [h]
  have e : (AB (A9 i k ++ bs.drop i)).set i (.v (.int .i64 (k + i))) = AB (A9 (i + 1) k ++ bs.drop (i + 1)) := by
   rw [EP, Tz _ _ _ _ (by simp [A9]) h, A9, A9, List.range_succ, List.map_append]; rfl
  simp [A9] at e ⊢
  refine ⟨by omega, by omega, by omega, _, ?_, hJ _ _ _ ⟨i + 1, rfl, h, ?_, ?_⟩⟩
  ·omega
  ·simp [A9, e]
  ·simp; omega
 ·have : i = bs.length := by omega
  subst this
  simp [A9]
@[simp] theorem FY (n : Nat) (k : Int) : (A9 n k).length = n := by simp [A9]
@[simp] theorem Hd (n : Nat) (k : Int) : (D5 n k).length = n := by simp [D5]
@[simp] theorem jV (n : Nat) (k : Int) : (AB (A9 n k)).take n = AB (A9 n k) := by
  have := AD (A9 n k)
  rwa [FY] at this
@[simp] theorem jW (n : Nat) (k : Int) : (AC (D5 n k)).take n = AC (D5 n k) := by
  have := U5 (D5 n k)
  rwa [Hd] at this
theorem Mf (n : Nat) (k : Int) (h0 : 0 ≤ k) (h1 : k < 2 ^ 40) (hb : n < 2 ^ 40) :
  SoundAt Tryz.prog H6 [.sl 1 1 (AB (A9 n k)), .v (.int .i64 k)] (.v (.int .i64 (k + n))) [.bot, .bot] := by
 refine AE (md := md0) (ms := [false, false]) Mc (by simp) ?_
 simp [H7]
 refine AF (fun m E H => ∃ i : Nat, m = n - i ∧ i ≤ n ∧ H = [] ∧ E = [(0, .sl 1 1 (AB (A9 n k))), (1, .v (.int .i64 (k + i))), (5, .v (.int .i64 i))]) n ⟨0, by simp⟩ ?_
 rintro J hJ m E H ⟨i, rfl, hi, rfl, rfl⟩
 simp [FX, FY]
 refine ⟨fun h => ?_, fun h => ?_⟩
 ·have e : ati (A9 n k) i = k + i := by simp [ati, A9, h]
  have hl := FY n k
  simp [e, h]
  refine ⟨by omega, by omega, _, by omega, hJ _ _ _ ⟨i + 1, rfl, h, rfl, ?_⟩⟩
  simp; omega
 ·have : i = n := by omega
  subst this
  simp
theorem T4 (W T W2 T2 : Int) (xs ys : List Bool) (ha : xs.length < 2 ^ 40) :
  SoundAt Tryz.prog MZ [.agg [.v (.int .i64 W), .v (.int .i64 T), .sl 1 1 (AC xs)], .agg [.v (.int .i64 W2), .v (.int .i64 T2), .sl 1 1 (AC ys)]] (.v (.bool (decide (W = W2 ∧ T = T2 ∧ xs = ys)))) [.bot, .bot] := by
 refine AE (md := md0) (ms := [false, false]) Tp (by simp) ?_
 simp [Ma]
 refine ⟨fun h => fun e => absurd e h, fun h1 => ⟨fun h _ e => absurd e h, fun h2 => ?_⟩⟩
 refine AA (VI xs ys ha) ?_
 simp [h1, h2]
theorem RR (W T : Int) (bs : List Bool) (k : Int) (h0 : 0 ≤ k) (h1 : k < 2 ^ 40) (hb : bs.length < 2 ^ 40) :
  SoundAt Tryz.prog KT [.agg [.v (.int .i64 W), .v (.int .i64 T), .os 1 (AC bs)], .v (.int .i64 k)] (.v (.int .i64 (k + bs.length))) [.agg [.v (.int .i64 W), .v (.int .i64 T), .os 1 (AC (D5 bs.length k))], .bot] := by
 refine AE (md := md0) (ms := [true, false]) RQ (by simp) ?_
 simp [KU]
 refine AA (SR bs k h0 h1 hb) ?_
 simp [Hd]
theorem BP (x lo hi : Int) : SoundAt Tryz.prog LB [.v (.int .i64 x), .v (.int .i64 lo), .v (.int .i64 hi)] (.v (.bool (decide (lo ≤ x ∧ x ≤ hi)))) [.bot, .bot, .bot] := by
 refine AE (md := md0) (ms := [false, false, false]) ZK (by simp) ?_
 simp [Tq]
 constructor
 ·intro h; simp [h]
 ·intro h; omega
theorem OJ (bs : List Bool) (hb : bs.length < 2 ^ 40) : SoundAt Tryz.prog OD [.sl 1 1 (AC bs)] (.v (.int .i64 (Bg bs))) [.bot] := by
 refine AE (md := md0) (ms := [false]) VE (by simp) ?_
 simp [OE]
 refine AF (fun m E H => ∃ i : Nat, m = bs.length - i ∧ i ≤ bs.length ∧ H = [] ∧ E = [(0, .sl 1 1 (AC bs)), (3, .v (.int .i64 (Bg (bs.take i)))), (4, .v (.int .i64 i))]) bs.length ⟨0, by simp [Bg]⟩ ?_
 rintro J hJ m E H ⟨i, rfl, hi, rfl, rfl⟩
 simp [KV]
 refine ⟨fun h => ?_, fun h => ?_⟩
 ·have e := O2 bs i h
  have e3 := Hx (bs.take i)
  rw [List.length_take] at e3
  simp [h]
  refine ⟨fun hb => ⟨by omega, by omega, _, by omega, hJ _ _ _ ⟨i + 1, rfl, h, rfl, ?_⟩⟩, fun hb => ⟨by omega, _, by omega, hJ _ _ _ ⟨i + 1, rfl, h, rfl, ?_⟩⟩⟩ <;> simp [e, hb]
 ·have : i = bs.length := by omega
  subst this
  simp
theorem BG (W T : Int) (cs : List Bool) (hb : cs.length < 2 ^ 40) : SoundAt Tryz.prog JF [.agg [.v (.int .i64 W), .v (.int .i64 T), .sl 1 1 (AC cs)]] (.v (.bool (A0 W T cs))) [.bot] := by
 refine AE (md := md0) (ms := [false]) Pn (by simp) ?_
 simp [JG]
 refine AA (BP W 1 6) ?_
 simp
 refine ⟨fun h h' => ?_, fun h => ?_⟩
 ·refine AA (BP T 1 6) ?_
  have hx : T ≤ 6 → W * T ≤ 36 ∧ (1 ≤ T → 1 ≤ W * T) := fun ht => ⟨(by
   by_cases h0 : 0 ≤ T
   ·exact Int.mul_le_mul h' ht h0 (by omega)
   ·have : W * T ≤ 0 := Int.mul_nonpos_of_nonneg_of_nonpos (by omega) (by omega)
    omega), fun h1 => Int.mul_pos (by omega) (by omega)⟩
  simp
  refine ⟨fun h1 h2 => ⟨by have := hx h2; omega, fun h3 => ?_, fun h3 => ?_⟩, fun h1 => ?_⟩
  ·refine AA (OJ cs hb) ?_
   simp [A0, h, h', h1, h2, h3]
   omega
  ·simp [A0]; omega
  ·simp [A0]; omega
 ·simp [A0]; omega
theorem P2 (n : Int) (h : 0 ≤ n) (h2 : n < 2 ^ 60) : SoundAt Tryz.prog Pp [.v (.int .i64 n)] (.v (.int .i64 (Cn n))) [.bot] := by
 refine AE (md := md0) (ms := [false]) Wr (by simp) ?_
 simp [Pq, Cn]
 omega
theorem Ww (a b : Int) (h1 : 0 ≤ a ∧ a ≤ 6) (h2 : 0 ≤ b ∧ b ≤ 6) : SoundAt Tryz.prog Pt [.v (.int .i64 a), .v (.int .i64 b)] (.v (.int .i64 (YC a b))) [.bot, .bot] := by
 refine AE (md := md0) (ms := [false, false]) Wt (by simp) ?_
 simp [Pu]
 refine AA (BP a 0 6) ?_
 simp [h1]
 refine AA (BP b 0 6) ?_
 simp [h2, YC]
 rw [Int.min_def, Int.max_def]
 (repeat' split) <;> omega
theorem He (W T : Int) (cs : List Bool) (k way : Int) (hr : A0 W T cs = true) (h0 : 0 ≤ k) (h1 : k < cs.length) :
  SoundAt Tryz.prog Hc [.agg [.v (.int .i64 W), .v (.int .i64 T), .sl 1 1 (AC cs)], .v (.int .i64 k), .v (.int .i64 way)] (.v (.int .i64 (AJ W T k way))) [.bot, .bot, .bot] := by
 refine AE (md := md0) (ms := [false, false, false]) Wq (by simp) ?_
 obtain ⟨w1, w2, t1, t2, l1, _⟩ := CM hr
 have hl := AZ hr
 have hxy := Wj (T := T) (k := k) w1 h0 (by omega)
 have e1 : AJ W T k way = if way = 1 ∧ k % W < W - 1 then k + 1 else if way = 2 ∧ k / W < T - 1 then k + W else if way = 3 ∧ 0 < k % W then k - 1 else if way = 4 ∧ 0 < k / W then k - W else -1 := rfl
 rw [e1]
 clear e1 hr
 generalize hA : k % W = A at *
 generalize hB : k / W = B at *
 by_cases c1 : way = 1
 ·subst c1; simp [EQ, hA, hB]; omega
 by_cases c2 : way = 2
 ·subst c2; simp [EQ, hA, hB]; omega
 by_cases c3 : way = 3
 ·subst c3; simp [EQ, hA, hB]; omega
 by_cases c4 : way = 4
 ·subst c4; simp [EQ, hA, hB]; omega
 simp [EQ, c1, c2, c3, c4]
theorem CP (W T : Int) (cs : List Bool) (ds : List Int) (hb : cs.length < 2 ^ 40) (hd : ds.length < 2 ^ 40) :
  SoundAt Tryz.prog JH [.agg [.v (.int .i64 W), .v (.int .i64 T), .sl 1 1 (AC cs)], .sl 1 1 (AB ds)] (.v (.bool (A0 W T cs && Cg cs ds))) [.bot, .bot] := by
 refine AE (md := md0) (ms := [false, false]) Po (by simp) ?_
 simp [JI]
 refine AA (BG W T cs hb) ?_
 simp
 refine ⟨fun hr => ⟨fun hl => ?_, fun hl => ?_⟩, fun hr => ?_⟩
 ·intro _
  simp [Cg]; omega
 ·have hl' : ds.length = cs.length := by omega
  refine AF (fun m E H => ∃ i : Nat, m = ds.length - i ∧ i ≤ ds.length ∧ U6 i (fun k => KO cs ds k) = true ∧ H = [some (.box [.v (.int .i64 W), .v (.int .i64 T), .sl 1 1 (AC cs)])] ∧ E = [(1, .sl 1 1 (AB ds)), (2, .lp 0 0 0 0), (5, .v (.int .i64 i))]) ds.length ⟨0, by simp [Gs]⟩ ?_
  rintro J hJ m E H ⟨i, rfl, hi, ha, rfl, rfl⟩
  by_cases h : i < ds.length
  ·have h2 : i < cs.length := by omega
   have next : KO cs ds i = true → C6 J (ds.length - i) [(1, .sl 1 1 (AB ds)), (2, .lp 0 0 0 0), (5, .v (.int .i64 (i + 1)))] [some (.box [.v (.int .i64 W), .v (.int .i64 T), .sl 1 1 (AC cs)])] :=
    fun hd => ⟨_, by omega, hJ _ _ _ ⟨i + 1, rfl, h, by rw [Gt, ha, hd]; rfl, rfl, rfl⟩⟩
   have stop : KO cs ds i = false → Cg cs ds = false := fun hd => by simp only [Cg, hl', decide_true, Bool.true_and]; exact GQ h2 hd
   cases hc : atb cs i with
   | true =>
     simp [CN, h, h2, hc]
     refine AA (BP (ati ds i) 0 6) ?_
     simp [KO, hc] at next stop ⊢
     (repeat' first | assumption | omega | apply And.intro | intro _) <;> first | omega | exact stop (by omega) | exact next (by omega) (by omega)
   | false =>
     simp [CN, h, h2, hc]
     simp [KO, hc] at next stop ⊢
     exact ⟨fun hx => fun _ => stop hx, fun hx => ⟨by omega, next hx⟩⟩
  ·have : i = ds.length := by omega
   subst this
   simp [CN]
   simp [Cg, hr, hl'] at ha ⊢
   exact ha
 ·simp [hr]
theorem BV (W T : Int) (cs : List Bool) (ls : List Int) (hb : cs.length < 2 ^ 40) (hd : ls.length < 2 ^ 40) :
  SoundAt Tryz.prog Pr [.agg [.v (.int .i64 W), .v (.int .i64 T), .sl 1 1 (AC cs)], .sl 1 1 (AB ls)] (.v (.bool (A0 W T cs && AO W T cs ls))) [.bot, .bot] := by
 refine AE (md := md0) (ms := [false, false]) Ws (by simp) ?_
 simp [Ps]
 refine AA (BG W T cs hb) ?_
 simp
 refine ⟨fun hr => ⟨fun hl => ?_, fun hl => ?_⟩, fun hr => ?_⟩
 ·intro _
  simp [AO]; omega
 ·have hl' : ls.length = cs.length := by omega
  obtain ⟨w1, w2, t1, t2, l1, _⟩ := CM hr
  refine AF (fun m E H => ∃ i : Nat, m = ls.length - i ∧ i ≤ ls.length ∧ U6 i (fun k => J5 W T cs ls k) = true ∧ H = [some (.box [.v (.int .i64 W), .v (.int .i64 T), .sl 1 1 (AC cs)])] ∧ E = [(1, .sl 1 1 (AB ls)), (2, .lp 0 0 0 0), (5, .v (.int .i64 i))]) ls.length ⟨0, by simp [Gs]⟩ ?_
  rintro J hJ m E H ⟨i, rfl, hi, ha, rfl, rfl⟩
  by_cases h : i < ls.length
  ·have h2 : i < cs.length := by omega
   have next : J5 W T cs ls i = true → C6 J (ls.length - i) [(1, .sl 1 1 (AB ls)), (2, .lp 0 0 0 0), (5, .v (.int .i64 (i + 1)))] [some (.box [.v (.int .i64 W), .v (.int .i64 T), .sl 1 1 (AC cs)])] :=
    fun hd => ⟨_, by omega, hJ _ _ _ ⟨i + 1, rfl, h, by rw [Gt, ha, hd]; rfl, rfl, rfl⟩⟩
   have stop : J5 W T cs ls i = false → (A0 W T cs && AO W T cs ls) = false := fun hd => by rw [hr, Bool.true_and]; simp only [AO, hl', decide_true, Bool.true_and]; exact GQ h2 hd
   by_cases z : ati ls i = 0
   ·simp [CJ, h, h2, z]
    exact ⟨by omega, next (by simp [J5, z])⟩
   by_cases rg : 1 ≤ ati ls i ∧ ati ls i ≤ 4
   case neg =>
    simp [CJ, h, h2, z]
    refine AA (BP (ati ls i) 1 4) ?_
    have hs := stop (by simp [J5, z]; omega)
    have hx : (decide (1 ≤ ati ls i) && decide (ati ls i ≤ 4)) = false := by simp; omega
    simp [hx, hs]
   cases hc : atb cs i with
   | false =>
     simp [CJ, h, h2, z]
     refine AA (BP (ati ls i) 1 4) ?_
     have hs := stop (by simp [J5, z, hc])
     simp [rg, hs, hc, h2]
   | true =>
     have hst := GR (T := T) (k := i) (way := ati ls i) w1 (by omega) (by omega)
     have one : SoundAt Tryz.prog Hc [.agg [.v (.int .i64 W), .v (.int .i64 T), .sl 1 1 (AC cs)], .v (.int .i64 i), .v (.int .i64 (ati ls i))] (.v (.int .i64 (AJ W T i (ati ls i)))) [.bot, .bot, .bot] := He W T cs i (ati ls i) hr (by omega) (by omega)
     have two := P2 (ati ls i) (by omega) (by omega)
     simp [J5, z, rg, hc] at next stop
     generalize hto : AJ W T i (ati ls i) = to at *
     simp [CJ, h, h2, z]
     refine AA (BP (ati ls i) 1 4) ?_
     simp [rg, hc, h2]
     rcases hst with hst | ⟨hst, hst2, -, -⟩
     ·subst hst
      have hs := stop (by omega) hr
      (repeat' first | assumption | omega | apply And.intro | intro _) <;> first
       | assumption
       | (refine AA one ?_; simp [hs])
     ·have e1 : ¬ to < 0 := by omega
      have e2 : to < cs.length := by omega
      have e3 : to < ls.length := by omega
      cases hct : atb cs to with
      | false =>
        have hs := stop (by simp [hct]) hr
        (repeat' first | assumption | omega | apply And.intro | intro _) <;> first
         | assumption
         | (refine AA one ?_; simp [hs, e1, e2, e3, hst, hct])
      | true =>
        simp [hst, hct] at next stop
        (repeat' first | assumption | omega | apply And.intro | intro _) <;> first
         | assumption
         | (refine AA one ?_
            simp [e1, e2, e3, hst, hct, h]
            (repeat' first | assumption | omega | apply And.intro | intro _) <;> first
             | assumption
             | (refine AA two ?_
                simp [e1, e2, e3, hst, hct, h]
                (repeat' first | assumption | omega | apply And.intro | intro _) <;> first
                 | assumption
                 | omega
                 | exact next (by assumption)
                 | exact stop (by assumption) (by assumption)))
  ·have : i = ls.length := by omega
   subst this
   simp [CJ]
   simp [AO, hr, hl'] at ha ⊢
   exact ha
 ·simp [hr]
def okB (W T : Int) (cs : List Bool) (ds ls : List Int) : Bool := A0 W T cs && (Cg cs ds && AO W T cs ls)
theorem Mg {W T : Int} {cs : List Bool} {ds ls : List Int} (h : okB W T cs ds ls = true) : A0 W T cs = true ∧ ds.length = cs.length ∧ ls.length = cs.length ∧
  ∀ k : Nat, k < cs.length → KO cs ds k = true ∧ J5 W T cs ls k = true := by
 simp only [okB, Cg, AO, Bool.and_eq_true, decide_eq_true_eq, Co] at h
 obtain ⟨h1, ⟨h2, h3⟩, h4, h5⟩ := h
 exact ⟨h1, h2, h4, fun k hk => ⟨h3 k (by omega), h5 k (by omega)⟩⟩
theorem YQ {W T : Int} {cs : List Bool} {ds ls : List Int} (h : okB W T cs ds ls = true) {k : Nat} (hk : k < cs.length) (hw : ati ls k = 1 ∨ ati ls k = 2) :
  0 ≤ AJ W T k (ati ls k) ∧ AJ W T k (ati ls k) < cs.length ∧ (0 ≤ ati ds k ∧ ati ds k ≤ 6) ∧ (0 ≤ ati ds (AJ W T k (ati ls k)) ∧ ati ds (AJ W T k (ati ls k)) ≤ 6) := by
 obtain ⟨hr, h1, h2, h3⟩ := Mg h
 obtain ⟨w1, w2, t1, t2, l1, _⟩ := CM hr
 obtain ⟨d1, p1⟩ := h3 k hk
 have hst := GR (T := T) (k := k) (way := ati ls k) w1 (by omega) (by omega)
 simp only [J5, decide_eq_true_eq] at p1
 rcases p1 with p1 | ⟨_, _, pc, p0, pt, _⟩
 ·omega
 generalize hto : AJ W T k (ati ls k) = to at *
 have d2 := (h3 to.toNat (by omega)).1
 rw [show ((to.toNat : Nat) : Int) = to by omega] at d2
 simp only [KO, pc, pt, if_true, decide_eq_true_eq] at d1 d2
 exact ⟨p0, by omega, d1, d2⟩
theorem VJ (W T : Int) (cs : List Bool) (ds ls : List Int) (hb : cs.length < 2 ^ 40) (hd : ds.length < 2 ^ 40) (hl : ls.length < 2 ^ 40) :
  SoundAt Tryz.prog OG [.agg [.v (.int .i64 W), .v (.int .i64 T), .sl 1 1 (AC cs)], .sl 1 1 (AB ds), .sl 1 1 (AB ls)] (.os 1 (AB (if okB W T cs ds ls then B3 W T ds ls else []))) [.bot, .bot, .bot] := by
 refine AE (md := md0) (ms := [false, false, false]) VF (by simp) ?_
 simp [OH]
 refine AF (fun m E H => ∃ i : Nat, m = ls.length - i ∧ i ≤ ls.length ∧ (i = 0 ∨ okB W T cs ds ls = true) ∧ H = [some (.box [.v (.int .i64 W), .v (.int .i64 T), .sl 1 1 (AC cs)]), some (.arr 1 (AB (Aw W T ds ls i)))] ∧
  E = [(1, .sl 1 1 (AB ds)), (2, .sl 1 1 (AB ls)), (3, .lp 0 0 0 0), (7, .ls 1 1 0 (Aw W T ds ls i).length), (8, .v (.int .i64 i))]) ls.length ⟨0, by simp [Aw]⟩ ?_
 rintro J hJ m E H ⟨i, rfl, hi, hz, rfl, rfl⟩
 by_cases h : i < ls.length
 case neg =>
  have : i = ls.length := by omega
  subst this
  simp [GT]
  rcases hz with hz | hz
  ·have : ls = [] := List.eq_nil_of_length_eq_zero hz
   subst this
   simp [B3, Aw]
  ·simp [hz, B3]
 simp [GT, h]
 refine AA (CP W T cs ds hb hd) ?_
 have ok0 : okB W T cs ds ls = false → i = 0 := fun h => by rcases hz with hz | hz; exact hz; rw [h] at hz; cases hz
 cases hp : (A0 W T cs && Cg cs ds) with
 | false =>
   have hn : okB W T cs ds ls = false := by simp only [okB, ← Bool.and_assoc, hp, Bool.false_and]
   have := ok0 hn; subst this
   simp [hn, Aw]
 | true =>
 simp
 refine AA (BV W T cs ls hb hl) ?_
 cases hp2 : (A0 W T cs && AO W T cs ls) with
 | false =>
   have hn : okB W T cs ds ls = false := by
    simp only [Bool.and_eq_true] at hp
    rw [hp.1, Bool.true_and] at hp2
    simp [okB, hp2]
   have := ok0 hn; subst this
   simp [hn, Aw]
 | true =>
 have hok : okB W T cs ds ls = true := by
  simp only [Bool.and_eq_true] at hp hp2
  simp [okB, hp, hp2]
 obtain ⟨hr, e1, e2, _⟩ := Mg hok
 have hlen := En W T ds ls i
 have hl36 := AZ hr
 have hsuc := FG W T ds ls i
 have next : ∀ (x : List Int), Aw W T ds ls (i + 1) = Aw W T ds ls i ++ x → C6 J (ls.length - i) [(1, .sl 1 1 (AB ds)), (2, .sl 1 1 (AB ls)), (3, .lp 0 0 0 0), (7, .ls 1 1 0 ((Aw W T ds ls i).length + x.length)), (8, .v (.int .i64 (i + 1)))]
   [some (.box [.v (.int .i64 W), .v (.int .i64 T), .sl 1 1 (AC cs)]), some (.arr 1 (AB (Aw W T ds ls i) ++ AB x))] := by
  intro x hx
  refine ⟨_, by omega, hJ _ _ _ ⟨i + 1, rfl, h, .inr hok, ?_, ?_⟩⟩
  ·rw [hx, LA]
  ·rw [hx, List.length_append]; rfl
 have hds : i < ds.length := by omega
 by_cases hw : ati ls i = 1 ∨ ati ls i = 2
 ·obtain ⟨o1, o2, o3, o4⟩ := YQ hok (k := i) (by omega) hw
  have one : SoundAt Tryz.prog Hc [.agg [.v (.int .i64 W), .v (.int .i64 T), .sl 1 1 (AC cs)], .v (.int .i64 i), .v (.int .i64 (ati ls i))] (.v (.int .i64 (AJ W T i (ati ls i)))) [.bot, .bot, .bot] := He W T cs i (ati ls i) hr (by omega) (by omega)
  have two := Ww (ati ds i) (ati ds (AJ W T i (ati ls i))) o3 o4
  have next1 := next _ (by rw [hsuc, if_pos hw])
  clear hsuc next
  simp at next1
  generalize hto : AJ W T i (ati ls i) = to at *
  have o5 : to < ds.length := by omega
  have hb : (Aw W T ds ls i).length ≤ 36 := by omega
  rcases hw with hw | hw <;> rw [hw] at one <;>
  ·simp [h, hw, hds]
   (repeat' first | assumption | apply And.intro) <;>
   ·refine AA one ?_
    simp [o1, o5, hds]
    (repeat' first | assumption | apply And.intro) <;>
    ·refine AA two ?_
     simp
     exact ⟨by omega, by omega, next1⟩
 ·have hw1 : ¬ ati ls i = 1 := fun e => hw (.inl e)
  have hw2 : ¬ ati ls i = 2 := fun e => hw (.inr e)
  simp [h, hw1, hw2]
  rw [if_neg hw, List.append_nil] at hsuc
  refine ⟨by omega, _, by omega, hJ _ _ _ ⟨i + 1, rfl, h, .inr hok, ?_, ?_⟩⟩ <;> rw [hsuc]
  rfl
end Go.Proofs.Dev
