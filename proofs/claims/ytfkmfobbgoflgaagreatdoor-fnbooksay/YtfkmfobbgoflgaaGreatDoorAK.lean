/- Contracts of the functions of the program over slots and rows, each proved against the program itself; no condition beyond those that each theorem names. -/
import Derived.Test.YtfkmfobbgoflgaaGreatDoorRows
import Derived.ProofKit
import Derived.Test.YtfkmfobbgoflgaaGreatDoorAH
import Derived.Test.YtfkmfobbgoflgaaGreatDoorTie
import Derived.Test.YtfkmfobbgoflgaaGreatDoorCards
import Derived.SevenTiedAt
import Derived.ChangeMaps5
import Derived.Test.YtfkmfobbgoflgaaGreatDoorProg
set_option linter.unusedSimpArgs false
set_option linter.unusedVariables false
set_option maxRecDepth 100000
namespace Go.Proofs.YtfkmfobbgoflgaaGreatDoor
theorem RY:Tryz.prog.mayEnter = true:= by kernel_rfl
theorem aJ:Tryz.prog.make = some .cut:= by kernel_rfl
theorem OI:Tryz.prog.liftsFinal = false:= by kernel_rfl
open Go.ChangeShapes Go.WideShapes Go.ChangeAt Go.RowKit Go.Proofs.Dev
theorem own:ownKnob Tryz.prog.godebug = none:= by kernel_rfl
theorem gp:laidOutB Tryz.prog = true:= by kernel_rfl
theorem tA:Tryz.prog.cellsOf 9 = 1:= by kernel_rfl
theorem lb:Tryz.prog.cellsOf 5 = 1:= by kernel_rfl
theorem lc:Tryz.prog.readableRec 22 = true:= by kernel_rfl
theorem dX:Tryz.prog.globalNamed "loop.example/dominotilings/impl.deedWords" = some 0:= by kernel_rfl
theorem gq:(Tryz.prog.globals[0]?).map (·.type) = some 58:= by kernel_rfl
theorem lh:Tryz.prog.readableRec 58 = true ∧ 58 < Tryz.prog.types.size:= ⟨by kernel_rfl,of_decide_eq_true (by kernel_rfl)⟩
theorem lj {C:Ctx} {a:AV} {v:Value} (h:R C a [] v):RL C [a] [] [v]:= by
 rw [RL]
 exact ⟨[],[],_,_,rfl,rfl,h,by rw [RL]; exact ⟨rfl,rfl⟩⟩
abbrev qH:List (List UInt8):= [[108,97,121],[108,105,102,116],[102,108,105,112],[102,111,114,99,101],[98,97,99,107]]
theorem kF {l:List (String × DataW Unit)} {W:World} (hp:(l.all fun x => x.2.handleName?.isNone) = true) (hm:("loop.example/dominotilings/impl.deedWords",(Rows.laid_loop_example_dominotilings_impl_deedWords:DataW Unit)) ∈ l) (h:laidMetH Tryz.prog l W):
  R (Zi W [] fun _ => False) (.vp 0 [.sl 0 1 (txs qH)] 0) [] (.pointer (some ⟨0,0,none⟩)):= by
 rw [MakeChecks.laidMetH_plain _ _ _ hp] at h
 obtain ⟨ps,h1,_,_⟩:= h
 obtain ⟨g,t,cs,fuel,p,e1,e2,e3,e4⟩:= bi h1 hm
 rw [dX] at e1; cases e1
 rw [gq] at e2; cases e2
 exact ep dX Tryz.underlying58 Tryz.underlying9 tA e3 e4
theorem qI {l:List (String × DataW Unit)} {W:World} (hp:(l.all fun x => x.2.handleName?.isNone) = true) (hm:("loop.example/dominotilings/impl.deedWords",(Rows.laid_loop_example_dominotilings_impl_deedWords:DataW Unit)) ∈ l) (h:laidMetH Tryz.prog l W) (hg:GP W [] fun _ => False):GB W [] fun _ => False:= by
 refine ⟨?_,hg⟩
 show RL (Zi W [] fun _ => False) [_] [] [_]
 rw [RL]
 exact ⟨[],[],_,_,rfl,rfl,kF hp hm h,by rw [RL]; exact ⟨rfl,rfl⟩⟩
theorem tB:Tryz.prog.globalNamed "strconv.ErrSyntax" = some 2:= by kernel_rfl
theorem tC:Tryz.prog.globalNamed "strconv.ErrRange" = some 3:= by kernel_rfl
theorem tD:(Tryz.prog.globals[2]?).map (·.type) = some 76:= by kernel_rfl
theorem tE:(Tryz.prog.globals[3]?).map (·.type) = some 76:= by kernel_rfl
theorem qJ {l:List (String × DataW Unit)} {W:World} (hp:(l.all fun x => x.2.handleName?.isNone) = true) (hm2:("strconv.ErrSyntax",(Rows.laid_strconv_ErrSyntax:DataW Unit)) ∈ l) (hm3:("strconv.ErrRange",(Rows.laid_strconv_ErrRange:DataW Unit)) ∈ l)
  (hsh:W.ShapedOpen Tryz.prog) (h:laidMetH Tryz.prog l W):GP W [] fun _ => False:= by
 rw [MakeChecks.laidMetH_plain _ _ _ hp] at h
 obtain ⟨ps,h1,_,_⟩:= h
 intro p hpm
 simp only [gps,List.mem_cons,List.not_mem_nil,or_false] at hpm
 refine ⟨⟨by simp,by simp⟩,?_⟩
 rcases hpm with rfl | rfl | rfl
 ·obtain ⟨m,hm⟩:= cell_of_shapedOpen_int (g:= 1) (zero:= #[.int .i64 0]) (t:= 3) hsh (of_decide_eq_true (by kernel_rfl)) (by kernel_rfl) rfl (by kernel_rfl) (by kernel_rfl) Tryz.underlying3
  exact ⟨_,hm,m,rfl⟩
 ·exact dP h1 hm2 tB tD Tryz.underlying76
 ·exact dP h1 hm3 tC tE Tryz.underlying76
theorem dY {P:Program} {f:Nat} {bs:List Int} (h:SoundAt P f [.sl 0 1 (u8s bs)] (.v (.bool true)) [.bot]):SoundAt P f [.sl 1 1 (u8s bs)] (.v (.bool true)) [.bot]:= by
 refine SoundAt.lift (n:= 1) (fun C S us hr => noOL_ok _ S us (jy 1 bs) hr) rfl ?_
 have e:vwL 0 [AV.sl 1 1 (u8s bs)] = [AV.sl 0 1 (u8s bs)]:= by simp [vwL,vw]
 rw [e]
 exact h
end Go.Proofs.YtfkmfobbgoflgaaGreatDoor
namespace Go.Proofs.Dev
@[simp] abbrev Az:Nat:= 24
abbrev Bv:Plan:= .al (.o 56 (.call 73 []) [.t 51,.t 55]) ( .take (.m 50 56) <| .take (.e 57 0 50) <| .take (.e 58 1 50) <| .al (.s (.store 6) [.t 13,.t 57]) ( .take (.m 14 58) <| .done))
abbrev H5:Plan:= .alt (.o 56 (.call 73 []) [.t 51,.t 55]) ( .take (.m 50 56) <| .take (.e 57 0 50) <| .take (.e 58 1 50) <| .al (.o 13 (.alloc bz) []) ( .al (.s (.store 6) [.t 13,.t 57]) ( .take (.m 14 58) <| .done))) <| .al (.o 13 (.alloc bz) []) Bv
def EB:ACode:= .seq (.seq (.reg [.m 44 12,.m 45 11,.n 46 45,.o 47 (.bin .lss 0) [.t 44,.t 46]]) <| .cond (.t 47) ( .skip) ( .exit 1)) <| .seq (.block 2 ( .seq (.draw ( .take (.m 52 11) <| .take (.m 53 12) <| .take (.o 54 (.iadr 3) [.t 52,.t 53]) <| .alt (.la 51 6 8) ( .alt (.la 55 3 54) H5 <| .al (.o 13 (.alloc bz) []) ( .al (.la 55 3 54) Bv)) <| .alt (.la 55 3 54) ( .alt (.la 51 6 8) H5 <| .al (.o 13 (.alloc bz) []) ( .al (.la 51 6 8) Bv)) <| .al (.o 13 (.alloc bz) []) ( .alt (.la 51 6 8) ( .al (.la 55 3 54) Bv) <| .al (.la 55 3 54) ( .al (.la 51 6 8) Bv)))) <| .reg [.la 59 6 13,.s (.store 6) [.t 8,.t 59]])) <| .reg [.m 48 12,.o 49 (.bin .add 0) [.t 48,.k 1],.m 12 49]
abbrev An:Plan:= .al (.o 115 (.call 81 []) [.t 110,.t 112,.t 114]) ( .al (.o 116 (.call 74 []) [.t 115,.c (.v (.string ⟨#[121,101,115]⟩))]) ( .al (.s (.store 6) [.t 4,.t 108]) ( .take (.m 5 116) <| .done)))
abbrev GL:Plan:= .alt (.la 108 6 8) An <| .al (.o 115 (.call 81 []) [.t 110,.t 112,.t 114]) ( .alt (.la 108 6 8) ( .al (.o 116 (.call 74 []) [.t 115,.c (.v (.string ⟨#[121,101,115]⟩))]) ( .al (.s (.store 6) [.t 4,.t 108]) ( .take (.m 5 116) <| .done))) <| .al (.o 116 (.call 74 []) [.t 115,.c (.v (.string ⟨#[121,101,115]⟩))]) ( .al (.la 108 6 8) ( .al (.s (.store 6) [.t 4,.t 108]) ( .take (.m 5 116) <| .done))))
abbrev Cq:Plan:= .al (.o 73 (.call 76 []) [.t 70,.t 72]) ( .al (.s (.store 6) [.t 4,.t 68]) ( .take (.m 5 73) <| .done))
abbrev Cr:Plan:= .al (.o 82 (.call 77 []) [.t 79,.t 81]) ( .al (.s (.store 6) [.t 4,.t 77]) ( .take (.m 5 82) <| .done))
abbrev GM:Plan:= .al (.o 104 (.call 74 []) [.t 103,.c (.v (.string ⟨#[121,101,115]⟩))]) ( .al (.s (.store 6) [.t 4,.t 101]) ( .take (.m 5 104) <| .done))
abbrev GN:Plan:= .al (.o 89 (.call 78 []) [.t 88]) ( .al (.s (.store 6) [.t 4,.t 86]) ( .take (.m 5 89) <| .done))
abbrev Ka:Plan:= .alt (.la 68 6 8) Cq <| .al (.o 73 (.call 76 []) [.t 70,.t 72]) ( .al (.la 68 6 8) ( .al (.s (.store 6) [.t 4,.t 68]) ( .take (.m 5 73) <| .done)))
abbrev Kb:Plan:= .alt (.la 77 6 8) Cr <| .al (.o 82 (.call 77 []) [.t 79,.t 81]) ( .al (.la 77 6 8) ( .al (.s (.store 6) [.t 4,.t 77]) ( .take (.m 5 82) <| .done)))
abbrev GO:Plan:= .al (.s (.store 6) [.t 4,.t 93]) ( .take (.m 5 97) <| .done)
abbrev Kc:Plan:= .alt (.la 110 3 109) ( .al (.l 114 113) An) <| .al (.l 114 113) ( .al (.la 110 3 109) An)
abbrev JR:Plan:= .alt (.la 110 3 109) ( .al (.l 112 111) An) <| .al (.l 112 111) ( .al (.la 110 3 109) An)
abbrev JS:Plan:= .alt (.l 112 111) ( .al (.l 114 113) An) <| .al (.l 114 113) ( .al (.l 112 111) An)
abbrev JT:Plan:= .alt (.la 108 6 8) ( .al (.la 110 3 109) An) <| .al (.la 110 3 109) GL
abbrev JU:Plan:= .alt (.la 108 6 8) ( .al (.l 114 113) An) <| .al (.l 114 113) GL
abbrev JV:Plan:= .alt (.la 108 6 8) ( .al (.l 112 111) An) <| .al (.l 112 111) GL
abbrev JW:Plan:= .al (.s (.store 6) [.t 4,.t 133]) ( .take (.m 5 137) <| .done)
abbrev JX:Plan:= .al (.s (.store 6) [.t 4,.t 36]) ( .take (.m 5 38) <| .done)
def Ap:ACode:= .seq (.reg [.o 2 .box [.t 0],.o 4 (.alloc bz) [],.o 5 .mv [.c (.v (.string ⟨#[]⟩))]]) <| .seq (.seq (.reg [.la 17 6 2,.o 18 (.call 18 []) [.t 17],.o 19 (.un .not) [.t 18]]) <| .cond (.t 19) ( .seq (.reg [.o 20 (.build bz []) [],.s (.store 6) [.t 4,.t 20],.o 5 .mv [.c (.v (.string ⟨#[]⟩))]]) <| .ret) ( .skip)) <| .seq (.reg [.m 22 1,.o 23 (.call 56 []) [.t 22],.m 21 23,.e 24 0 21,.e 25 1 21,.o 6 (.alloc dz) [],.s (.store 3) [.t 6,.t 24],.m 7 25]) <| .seq (.reg [.la 26 6 2,.o 27 (.call 72 []) [.t 26],.o 8 (.alloc bz) [],.s (.store 6) [.t 8,.t 27]]) <| .seq (.block 0 ( .seq (.reg [.m 29 7,.m 28 29]) <| .cond (.t 28) ( .seq (.reg [.la 31 6 2,.la 32 3 6,.o 33 (.call 73 []) [.t 31,.t 32],.m 30 33,.e 34 0 30,.e 35 1 30,.o 9 (.alloc bz) [],.s (.store 6) [.t 9,.t 34],.m 10 35]) <| .seq (.draw ( .take (.m 37 10) <| .alt (.la 36 6 9) ( .al (.o 38 (.call 74 []) [.t 37,.c (.v (.string ⟨#[111,107]⟩))]) JX) <| .al (.o 38 (.call 74 []) [.t 37,.c (.v (.string ⟨#[111,107]⟩))]) ( .al (.la 36 6 9) JX))) <| .ret) ( .seq (.reg [.m 40 1,.o 41 (.bin .eql 1) [.t 40,.c (.v (.string ⟨#[101,110,100]⟩))],.m 39 41]) <| .cond (.t 39) ( .seq (.reg [.la 42 6 2,.o 43 (.call 75 []) [.t 42],.m 11 43]) <| .seq (.seq (.reg [.o 12 .mv [.k 0]]) <| .block 1 ( .loop [(11,3)] [4,8,11,12] EB)) <| .seq (.seq (.reg [.m 60 11,.n 61 60,.o 62 (.bin .eql 0) [.t 61,.k 0]]) <| .cond (.t 62) ( .seq (.reg [.la 63 6 8,.s (.store 6) [.t 4,.t 63],.o 5 .mv [.c (.v (.string ⟨#[110,111,110,101]⟩))]]) <| .ret) ( .skip)) <| .seq (.reg [.la 64 6 8,.s (.store 6) [.t 4,.t 64],.o 5 .mv [.c (.v (.string ⟨#[111,107]⟩))]]) <| .ret) ( .seq (.reg [.m 66 1,.o 67 (.bin .eql 1) [.t 66,.c (.v (.string ⟨#[115,104,111,119]⟩))],.m 65 67]) <| .cond (.t 65) ( .seq (.draw ( .take (.f 69 0 2) <| .take (.f 71 4 2) <| .alt (.la 68 6 8) ( .alt (.la 70 3 69) ( .al (.l 72 71) Cq) <| .al (.l 72 71) ( .al (.la 70 3 69) Cq)) <| .alt (.la 70 3 69) ( .alt (.la 68 6 8) ( .al (.l 72 71) Cq) <| .al (.l 72 71) Ka) <| .al (.l 72 71) ( .alt (.la 68 6 8) ( .al (.la 70 3 69) Cq) <| .al (.la 70 3 69) Ka))) <| .ret) ( .seq (.reg [.m 75 1,.o 76 (.bin .eql 1) [.t 75,.c (.v (.string ⟨#[100,105,103,105,116,115]⟩))],.m 74 76]) <| .cond (.t 74) ( .seq (.draw ( .take (.f 78 0 2) <| .take (.f 80 3 2) <| .alt (.la 77 6 8) ( .alt (.la 79 3 78) ( .al (.l 81 80) Cr) <| .al (.l 81 80) ( .al (.la 79 3 78) Cr)) <| .alt (.la 79 3 78) ( .alt (.la 77 6 8) ( .al (.l 81 80) Cr) <| .al (.l 81 80) Kb) <| .al (.l 81 80) ( .alt (.la 77 6 8) ( .al (.la 79 3 78) Cr) <| .al (.la 79 3 78) Kb))) <| .ret) ( .seq (.reg [.m 84 1,.o 85 (.bin .eql 1) [.t 84,.c (.v (.string ⟨#[108,101,102,116]⟩))],.m 83 85]) <| .cond (.t 83) ( .seq (.draw ( .alt (.la 86 6 8) ( .al (.la 87 6 2) ( .al (.o 88 (.call 79 []) [.t 87]) GN)) <| .al (.la 87 6 2) ( .alt (.la 86 6 8) ( .al (.o 88 (.call 79 []) [.t 87]) GN) <| .al (.o 88 (.call 79 []) [.t 87]) ( .alt (.la 86 6 8) GN <| .al (.o 89 (.call 78 []) [.t 88]) ( .al (.la 86 6 8) ( .al (.s (.store 6) [.t 4,.t 86]) ( .take (.m 5 89) <| .done))))))) <| .ret) ( .seq (.reg [.m 91 1,.o 92 (.bin .eql 1) [.t 91,.c (.v (.string ⟨#[112,97,115,116]⟩))],.m 90 92]) <| .cond (.t 90) ( .seq (.draw ( .take (.f 94 5 2) <| .alt (.la 93 6 8) ( .al (.l 95 94) ( .take (.n 96 95) <| .al (.o 97 (.call 78 []) [.t 96]) GO)) <| .al (.l 95 94) ( .take (.n 96 95) <| .alt (.la 93 6 8) ( .al (.o 97 (.call 78 []) [.t 96]) GO) <| .al (.o 97 (.call 78 []) [.t 96]) ( .al (.la 93 6 8) GO)))) <| .ret) ( .seq (.reg [.m 99 1,.o 100 (.bin .eql 1) [.t 99,.c (.v (.string ⟨#[115,111,108,118,101,100]⟩))],.m 98 100]) <| .cond (.t 98) ( .seq (.draw ( .alt (.la 101 6 8) ( .al (.la 102 6 2) ( .al (.o 103 (.call 80 []) [.t 102]) GM)) <| .al (.la 102 6 2) ( .alt (.la 101 6 8) ( .al (.o 103 (.call 80 []) [.t 102]) GM) <| .al (.o 103 (.call 80 []) [.t 102]) ( .alt (.la 101 6 8) GM <| .al (.o 104 (.call 74 []) [.t 103,.c (.v (.string ⟨#[121,101,115]⟩))]) ( .al (.la 101 6 8) ( .al (.s (.store 6) [.t 4,.t 101]) ( .take (.m 5 104) <| .done))))))) <| .ret) ( .seq (.reg [.m 106 1,.o 107 (.bin .eql 1) [.t 106,.c (.v (.string ⟨#[100,101,97,100]⟩))],.m 105 107]) <| .cond (.t 105) ( .seq (.draw ( .take (.f 109 0 2) <| .take (.f 111 3 2) <| .take (.f 113 4 2) <| .alt (.la 108 6 8) ( .alt (.la 110 3 109) JS <| .alt (.l 112 111) Kc <| .al (.l 114 113) JR) <| .alt (.la 110 3 109) ( .alt (.la 108 6 8) JS <| .alt (.l 112 111) JU <| .al (.l 114 113) JV) <| .alt (.l 112 111) ( .alt (.la 108 6 8) Kc <| .alt (.la 110 3 109) JU <| .al (.l 114 113) JT) <| .al (.l 114 113) ( .alt (.la 108 6 8) JR <| .alt (.la 110 3 109) JV <| .al (.l 112 111) JT))) <| .ret) ( .seq (.reg [.m 118 1,.o 119 (.bin .eql 1) [.t 118,.c (.v (.string ⟨#[104,105,110,116]⟩))],.m 117 119]) <| .cond (.t 117) ( .seq (.reg [.f 121 0 2,.la 122 3 121,.f 123 3 2,.l 124 123,.f 125 4 2,.l 126 125,.o 127 (.call 82 []) [.t 122,.t 124,.t 126],.m 120 127,.e 128 0 120,.e 129 1 120,.m 15 128,.m 16 129]) <| .seq (.seq (.reg [.m 130 15,.o 131 (.bin .lss 0) [.t 130,.k 0]]) <| .cond (.t 131) ( .seq (.reg [.la 132 6 8,.s (.store 6) [.t 4,.t 132],.o 5 .mv [.c (.v (.string ⟨#[110,111,110,101]⟩))]]) <| .ret) ( .skip)) <| .seq (.draw ( .take (.m 134 15) <| .take (.m 135 16) <| .take (.o 136 (.build dz [(0,1),(1,1),(2,1)]) [.k 0,.t 134,.t 135]) <| .alt (.la 133 6 8) ( .al (.o 137 (.call 48 []) [.t 136]) JW) <| .al (.o 137 (.call 48 []) [.t 136]) ( .al (.la 133 6 8) JW))) <| .ret) ( .skip))))))))))) <| .seq (.reg [.la 138 6 8,.s (.store 6) [.t 4,.t 138],.o 5 .mv [.c (.v (.string ⟨#[119,104,97,116]⟩))]]) <| .ret
theorem A0:cFn Tryz.prog Az 139 [.c 4 true 6,.t 5] Ap:= ⟨Tryz.f24,_,Tryz.func24,rfl,by kernel_rfl,by kernel_rfl,by kernel_rfl,by kernel_rfl⟩
@[simp] abbrev Mn:Nat:= 106
def Vp:ACode:= .seq (.reg [.o 6 .mv [.kb false]]) <| .seq (.reg [.m 7 0,.m 8 1,.o 9 (.bin .geq 0) [.t 7,.t 8],.m 10 9,.mg 11 0 10 true,.mg 12 2 10 true,.g 13 (.bin .leq 0) [.t 11,.t 12] 10 true,.o 14 .pick [.t 10,.t 13,.kb false],.m 6 14]) <| .ret
theorem bu:cFn Tryz.prog Mn 15 [.t 6] Vp:= ⟨Tryz.f106,_,Tryz.func106,rfl,by kernel_rfl,by kernel_rfl,by kernel_rfl,by kernel_rfl⟩
@[simp] abbrev Pk:Nat:= 203
def Lu:ACode:= .seq (.seq (.reg [.m 5 4,.m 6 0,.n 7 6,.o 8 (.bin .lss 0) [.t 5,.t 7]]) <| .cond (.t 8) ( .skip) ( .exit 0)) <| .seq (.block 1 ( .seq (.reg [.m 11 0,.m 12 4,.o 13 (.iadr 1) [.t 11,.t 12],.l 14 13]) <| .cond (.t 14) ( .reg [.m 15 3,.o 16 (.bin .add 0) [.t 15,.k 1],.m 3 16]) ( .skip))) <| .reg [.m 9 4,.o 10 (.bin .add 0) [.t 9,.k 1],.m 4 10]
def Pm:ACode:= .seq (.reg [.o 2 .mv [.k 0]]) <| .seq (.reg [.o 3 .mv [.k 0]]) <| .seq (.seq (.reg [.o 4 .mv [.k 0]]) <| .block 0 ( .loop [(0,1)] [0,3,4] Lu)) <| .seq (.reg [.m 17 3,.m 2 17]) <| .ret
theorem XF:cFn Tryz.prog Pk 18 [.t 2] Pm:= ⟨Tryz.f203,_,Tryz.func203,rfl,by kernel_rfl,by kernel_rfl,by kernel_rfl,by kernel_rfl⟩
@[simp] abbrev Kd:Nat:= 168
def Ke:ACode:= .seq (.reg [.o 1 .box [.t 0],.o 2 .mv [.kb false]]) <| .seq (.reg [.f 3 0 1,.l 4 3,.o 5 (.call 106 []) [.t 4,.k 1,.k 6],.m 6 5,.fg 7 1 1 6 true,.lg 8 7 6 true,.g 9 (.call 106 []) [.t 8,.k 1,.k 6] 6 true,.o 10 .pick [.t 6,.t 9,.kb false],.m 11 10,.fg 12 2 1 11 true,.lg 13 12 11 true,.g 14 (.len false) [.t 13] 11 true,.fg 15 0 1 11 true,.lg 16 15 11 true,.fg 17 1 1 11 true,.lg 18 17 11 true,.g 19 (.bin .mul 0) [.t 16,.t 18] 11 true,.g 20 (.bin .eql 0) [.t 14,.t 19] 11 true,.o 21 .pick [.t 11,.t 20,.kb false],.m 22 21,.fg 23 2 1 22 true,.lg 24 23 22 true,.g 25 (.call 203 []) [.t 24] 22 true,.g 26 (.bin .leq 0) [.t 25,.k 24] 22 true,.o 27 .pick [.t 22,.t 26,.kb false],.m 2 27]) <| .ret
theorem RZ:cFn Tryz.prog Kd 28 [.t 2] Ke:= ⟨Tryz.f168,_,Tryz.func168,rfl,by kernel_rfl,by kernel_rfl,by kernel_rfl,by kernel_rfl⟩
@[simp] abbrev Kf:Nat:= 121
def Cs:ACode:= .seq (.seq (.reg [.m 17 5,.m 18 1,.n 19 18,.o 20 (.bin .lss 0) [.t 17,.t 19]]) <| .cond (.t 20) ( .skip) ( .exit 0)) <| .seq (.block 1 ( .seq (.reg [.f 23 2 2,.l 24 23,.m 25 5,.o 26 (.iadr 1) [.t 24,.t 25],.l 27 26,.m 28 27,.mg 29 1 28 true,.mg 30 5 28 true,.g 31 (.iadr 1) [.t 29,.t 30] 28 true,.lg 32 31 28 true,.g 33 (.call 106 []) [.t 32,.k 0,.k 6] 28 true,.g 34 (.un .not) [.t 33] 28 true,.o 35 .pick [.t 28,.t 34,.kb false],.m 36 35,.fg 37 2 2 36 false,.lg 38 37 36 false,.mg 39 5 36 false,.g 40 (.iadr 1) [.t 38,.t 39] 36 false,.lg 41 40 36 false,.g 42 (.un .not) [.t 41] 36 false,.mg 43 42 36 false,.mg 44 1 43 true,.mg 45 5 43 true,.g 46 (.iadr 1) [.t 44,.t 45] 43 true,.lg 47 46 43 true,.g 48 (.bin .neq 0) [.t 47,.k (-1)] 43 true,.g 49 .pick [.t 43,.t 48,.kb false] 36 false,.o 50 .pick [.t 36,.kb true,.t 49]]) <| .cond (.t 50) ( .seq (.reg [.o 4 .mv [.kb false]]) <| .ret) ( .skip))) <| .reg [.m 21 5,.o 22 (.bin .add 0) [.t 21,.k 1],.m 5 22]
def Kg:ACode:= .seq (.reg [.o 2 .box [.t 0],.o 4 .mv [.kb false]]) <| .seq (.seq (.reg [.la 6 3 2,.o 7 (.call 168 []) [.t 6],.o 8 (.un .not) [.t 7],.m 9 8,.mg 10 1 9 false,.g 11 (.len false) [.t 10] 9 false,.fg 12 2 2 9 false,.lg 13 12 9 false,.g 14 (.len false) [.t 13] 9 false,.g 15 (.bin .neq 0) [.t 11,.t 14] 9 false,.o 16 .pick [.t 9,.kb true,.t 15]]) <| .cond (.t 16) ( .seq (.reg [.o 4 .mv [.kb false]]) <| .ret) ( .skip)) <| .seq (.seq (.reg [.o 5 .mv [.k 0]]) <| .block 0 ( .loop [(1,1)] [1,2,5] Cs)) <| .seq (.reg [.o 4 .mv [.kb true]]) <| .ret
theorem Ra:cFn Tryz.prog Kf 51 [.t 4] Kg:= ⟨Tryz.f121,_,Tryz.func121,rfl,by kernel_rfl,by kernel_rfl,by kernel_rfl,by kernel_rfl⟩
@[simp] abbrev JB:Nat:= 169
def Ew:ACode:= .seq (.reg [.o 3 .box [.t 0],.o 6 .mv [.k 0]]) <| .seq (.block 0 ( .seq (.draw ( .take (.m 8 2) <| .take (.o 9 (.bin .eql 0) [.t 8,.k 1]) <| .take (.m 10 9) <| .take (.mg 11 1 10 true) <| .take (.fg 12 0 3 10 true) <| .take (.fg 15 0 3 10 true) <| .alt (.lg 13 12 10 true) ( .take (.g 14 (.bin .rem 0) [.t 11,.t 13] 10 true) <| .al (.lg 16 15 10 true) ( .take (.g 17 (.bin .sub 0) [.t 16,.k 1] 10 true) <| .take (.g 18 (.bin .lss 0) [.t 14,.t 17] 10 true) <| .take (.o 19 .pick [.t 10,.t 18,.kb false]) <| .take (.m 7 19) <| .done)) <| .al (.lg 16 15 10 true) ( .take (.g 17 (.bin .sub 0) [.t 16,.k 1] 10 true) <| .al (.lg 13 12 10 true) ( .take (.g 14 (.bin .rem 0) [.t 11,.t 13] 10 true) <| .take (.g 18 (.bin .lss 0) [.t 14,.t 17] 10 true) <| .take (.o 19 .pick [.t 10,.t 18,.kb false]) <| .take (.m 7 19) <| .done)))) <| .cond (.t 7) ( .seq (.reg [.m 20 1,.o 21 (.bin .add 0) [.t 20,.k 1],.m 6 21]) <| .ret) ( .seq (.draw ( .take (.m 23 2) <| .take (.o 24 (.bin .eql 0) [.t 23,.k 2]) <| .take (.m 25 24) <| .take (.mg 26 1 25 true) <| .take (.fg 27 0 3 25 true) <| .take (.fg 30 1 3 25 true) <| .alt (.lg 28 27 25 true) ( .take (.g 29 (.bin .quo 0) [.t 26,.t 28] 25 true) <| .al (.lg 31 30 25 true) ( .take (.g 32 (.bin .sub 0) [.t 31,.k 1] 25 true) <| .take (.g 33 (.bin .lss 0) [.t 29,.t 32] 25 true) <| .take (.o 34 .pick [.t 25,.t 33,.kb false]) <| .take (.m 22 34) <| .done)) <| .al (.lg 31 30 25 true) ( .take (.g 32 (.bin .sub 0) [.t 31,.k 1] 25 true) <| .al (.lg 28 27 25 true) ( .take (.g 29 (.bin .quo 0) [.t 26,.t 28] 25 true) <| .take (.g 33 (.bin .lss 0) [.t 29,.t 32] 25 true) <| .take (.o 34 .pick [.t 25,.t 33,.kb false]) <| .take (.m 22 34) <| .done)))) <| .cond (.t 22) ( .seq (.reg [.m 35 1,.f 36 0 3,.l 37 36,.o 38 (.bin .add 0) [.t 35,.t 37],.m 6 38]) <| .ret) ( .seq (.reg [.m 40 2,.o 41 (.bin .eql 0) [.t 40,.k 3],.m 42 41,.mg 43 1 42 true,.fg 44 0 3 42 true,.lg 45 44 42 true,.g 46 (.bin .rem 0) [.t 43,.t 45] 42 true,.g 47 (.bin .gtr 0) [.t 46,.k 0] 42 true,.o 48 .pick [.t 42,.t 47,.kb false],.m 39 48]) <| .cond (.t 39) ( .seq (.reg [.m 49 1,.o 50 (.bin .sub 0) [.t 49,.k 1],.m 6 50]) <| .ret) ( .seq (.reg [.m 52 2,.o 53 (.bin .eql 0) [.t 52,.k 4],.m 54 53,.mg 55 1 54 true,.fg 56 0 3 54 true,.lg 57 56 54 true,.g 58 (.bin .quo 0) [.t 55,.t 57] 54 true,.g 59 (.bin .gtr 0) [.t 58,.k 0] 54 true,.o 60 .pick [.t 54,.t 59,.kb false],.m 51 60]) <| .cond (.t 51) ( .seq (.reg [.m 61 1,.f 62 0 3,.l 63 62,.o 64 (.bin .sub 0) [.t 61,.t 63],.m 6 64]) <| .ret) ( .skip)))))) <| .seq (.reg [.o 6 .mv [.k (-1)]]) <| .ret
theorem Yp:cFn Tryz.prog JB 65 [.t 6] Ew:= ⟨Tryz.f169,_,Tryz.func169,rfl,by kernel_rfl,by kernel_rfl,by kernel_rfl,by kernel_rfl⟩
@[simp] abbrev Rb:Nat:= 170
def Rc:ACode:= .seq (.reg [.o 2 .mv [.k 0]]) <| .seq (.reg [.m 3 0,.o 4 (.bin .add 0) [.t 3,.k 1],.o 5 (.bin .rem 0) [.t 4,.k 4],.o 6 (.bin .add 0) [.t 5,.k 1],.m 2 6]) <| .ret
theorem Yq:cFn Tryz.prog Rb 7 [.t 2] Rc:= ⟨Tryz.f170,_,Tryz.func170,rfl,by kernel_rfl,by kernel_rfl,by kernel_rfl,by kernel_rfl⟩
@[simp] abbrev Rd:Nat:= 122
abbrev JY:Plan:= .take (.g 70 (.bin .neq 0) [.t 64,.t 69] 60 false) <| .take (.o 71 .pick [.t 60,.kb true,.t 70]) <| .done
abbrev JZ:Plan:= .al (.o 49 (.call 169 []) [.t 43,.t 44,.t 48]) ( .take (.m 6 49) <| .done)
abbrev Ja:Plan:= .al (.g 69 (.call 170 []) [.t 68] 60 false) JY
def Cj:ACode:= .seq (.seq (.reg [.m 18 5,.m 19 1,.n 20 19,.o 21 (.bin .lss 0) [.t 18,.t 20]]) <| .cond (.t 21) ( .skip) ( .exit 0)) <| .seq (.block 1 ( .seq (.seq (.reg [.m 24 1,.m 25 5,.o 26 (.iadr 1) [.t 24,.t 25],.l 27 26,.o 28 (.bin .eql 0) [.t 27,.k 0]]) <| .cond (.t 28) ( .exit 1) ( .skip)) <| .seq (.seq (.reg [.m 29 1,.m 30 5,.o 31 (.iadr 1) [.t 29,.t 30],.l 32 31,.o 33 (.call 106 []) [.t 32,.k 1,.k 4],.o 34 (.un .not) [.t 33],.m 35 34,.fg 36 2 2 35 false,.lg 37 36 35 false,.mg 38 5 35 false,.g 39 (.iadr 1) [.t 37,.t 38] 35 false,.lg 40 39 35 false,.g 41 (.un .not) [.t 40] 35 false,.o 42 .pick [.t 35,.kb true,.t 41]]) <| .cond (.t 42) ( .seq (.reg [.o 4 .mv [.kb false]]) <| .ret) ( .skip)) <| .seq (.draw ( .take (.m 44 5) <| .take (.m 45 1) <| .take (.m 46 5) <| .take (.o 47 (.iadr 1) [.t 45,.t 46]) <| .alt (.la 43 3 2) ( .al (.l 48 47) JZ) <| .al (.l 48 47) ( .al (.la 43 3 2) JZ))) <| .seq (.draw ( .take (.m 50 6) <| .take (.o 51 (.bin .lss 0) [.t 50,.k 0]) <| .take (.m 52 51) <| .take (.fg 53 2 2 52 false) <| .take (.mg 55 6 52 false) <| .al (.lg 54 53 52 false) ( .take (.g 56 (.iadr 1) [.t 54,.t 55] 52 false) <| .al (.lg 57 56 52 false) ( .take (.g 58 (.un .not) [.t 57] 52 false) <| .take (.o 59 .pick [.t 52,.kb true,.t 58]) <| .take (.m 60 59) <| .take (.mg 61 1 60 false) <| .take (.mg 62 6 60 false) <| .take (.g 63 (.iadr 1) [.t 61,.t 62] 60 false) <| .take (.mg 65 1 60 false) <| .take (.mg 66 5 60 false) <| .take (.g 67 (.iadr 1) [.t 65,.t 66] 60 false) <| .alt (.lg 64 63 60 false) ( .al (.lg 68 67 60 false) Ja) <| .al (.lg 68 67 60 false) ( .alt (.lg 64 63 60 false) Ja <| .al (.g 69 (.call 170 []) [.t 68] 60 false) ( .al (.lg 64 63 60 false) JY)))))) <| .cond (.t 71) ( .seq (.reg [.o 4 .mv [.kb false]]) <| .ret) ( .skip))) <| .reg [.m 22 5,.o 23 (.bin .add 0) [.t 22,.k 1],.m 5 23]
def Re:ACode:= .seq (.reg [.o 2 .box [.t 0],.o 4 .mv [.kb false]]) <| .seq (.seq (.reg [.la 7 3 2,.o 8 (.call 168 []) [.t 7],.o 9 (.un .not) [.t 8],.m 10 9,.mg 11 1 10 false,.g 12 (.len false) [.t 11] 10 false,.fg 13 2 2 10 false,.lg 14 13 10 false,.g 15 (.len false) [.t 14] 10 false,.g 16 (.bin .neq 0) [.t 12,.t 15] 10 false,.o 17 .pick [.t 10,.kb true,.t 16]]) <| .cond (.t 17) ( .seq (.reg [.o 4 .mv [.kb false]]) <| .ret) ( .skip)) <| .seq (.seq (.reg [.o 5 .mv [.k 0]]) <| .block 0 ( .loop [(1,1)] [1,2,5] Cj)) <| .seq (.reg [.o 4 .mv [.kb true]]) <| .ret
theorem Yr:cFn Tryz.prog Rd 72 [.t 4] Re:= ⟨Tryz.f122,_,Tryz.func122,rfl,by kernel_rfl,by kernel_rfl,by kernel_rfl,by kernel_rfl⟩
@[simp] abbrev Rf:Nat:= 172
def Rg:ACode:= .seq (.reg [.o 4 .mv [.k 0]]) <| .seq (.seq (.reg [.m 5 0,.o 6 (.call 106 []) [.t 5,.k 0,.k 6],.o 7 (.un .not) [.t 6],.m 8 7,.mg 9 1 8 false,.g 10 (.call 106 []) [.t 9,.k 0,.k 6] 8 false,.g 11 (.un .not) [.t 10] 8 false,.o 12 .pick [.t 8,.kb true,.t 11]]) <| .cond (.t 12) ( .seq (.reg [.o 4 .mv [.k (-1)]]) <| .ret) ( .skip)) <| .seq (.reg [.m 13 0,.m 14 1,.o 15 (.mnx true) [.t 13,.t 14],.o 16 (.bin .mul 0) [.k 7,.t 15],.m 17 0,.m 18 1,.o 19 (.mnx false) [.t 17,.t 18],.o 20 (.bin .add 0) [.t 16,.t 19],.m 4 20]) <| .ret
theorem Ys:cFn Tryz.prog Rf 21 [.t 4] Rg:= ⟨Tryz.f172,_,Tryz.func172,rfl,by kernel_rfl,by kernel_rfl,by kernel_rfl,by kernel_rfl⟩
@[simp] abbrev Pn:Nat:= 124
abbrev FH:Plan:= .al (.o 53 (.call 172 []) [.t 42,.t 52]) ( .al (.o 54 (.bsl 1) [.t 53]) ( .al (.o 55 (.app 1 8 true) [.t 38,.t 54]) ( .take (.m 7 55) <| .done)))
abbrev CH:Plan:= .al (.o 50 (.call 169 []) [.t 44,.t 45,.t 49]) ( .take (.o 51 (.iadr 1) [.t 43,.t 50]) <| .al (.l 52 51) FH)
abbrev Ir:Plan:= .alt (.l 42 41) CH <| .al (.o 50 (.call 169 []) [.t 44,.t 45,.t 49]) ( .take (.o 51 (.iadr 1) [.t 43,.t 50]) <| .alt (.l 42 41) ( .al (.l 52 51) FH) <| .al (.l 52 51) ( .al (.l 42 41) FH))
def HV:ACode:= .seq (.seq (.reg [.m 10 8,.m 11 2,.n 12 11,.o 13 (.bin .lss 0) [.t 10,.t 12],.m 14 13,.g 15 (.load true 3) [.t 3] 14 true,.mg 16 1 14 true,.g 17 (.call 121 []) [.t 15,.t 16] 14 true,.o 18 .pick [.t 14,.t 17,.kb false],.m 19 18,.g 20 (.load true 3) [.t 3] 19 true,.mg 21 2 19 true,.g 22 (.call 122 []) [.t 20,.t 21] 19 true,.o 23 .pick [.t 19,.t 22,.kb false]]) <| .cond (.t 23) ( .skip) ( .exit 0)) <| .seq (.block 1 ( .seq (.reg [.m 26 2,.m 27 8,.o 28 (.iadr 1) [.t 26,.t 27],.l 29 28,.o 30 (.bin .eql 0) [.t 29,.k 1],.m 31 30,.mg 32 2 31 false,.mg 33 8 31 false,.g 34 (.iadr 1) [.t 32,.t 33] 31 false,.lg 35 34 31 false,.g 36 (.bin .eql 0) [.t 35,.k 2] 31 false,.o 37 .pick [.t 31,.kb true,.t 36]]) <| .cond (.t 37) ( .draw ( .take (.m 38 7) <| .take (.m 39 1) <| .take (.m 40 8) <| .take (.o 41 (.iadr 1) [.t 39,.t 40]) <| .take (.m 43 1) <| .take (.m 45 8) <| .take (.m 46 2) <| .take (.m 47 8) <| .take (.o 48 (.iadr 1) [.t 46,.t 47]) <| .alt (.l 42 41) ( .alt (.la 44 3 3) ( .al (.l 49 48) CH) <| .al (.l 49 48) ( .al (.la 44 3 3) CH)) <| .alt (.la 44 3 3) ( .alt (.l 42 41) ( .al (.l 49 48) CH) <| .al (.l 49 48) Ir) <| .al (.l 49 48) ( .alt (.l 42 41) ( .al (.la 44 3 3) CH) <| .al (.la 44 3 3) Ir))) ( .skip))) <| .reg [.m 24 8,.o 25 (.bin .add 0) [.t 24,.k 1],.m 8 25]
def Po:ACode:= .seq (.reg [.o 3 .box [.t 0],.o 6 .mv [.c (.os 1 [])]]) <| .seq (.reg [.o 9 (.bsl 1) [],.m 7 9]) <| .seq (.seq (.reg [.o 8 .mv [.k 0]]) <| .block 0 ( .loop [(1,1),(2,1),(7,1)] [1,2,3,7,8] HV)) <| .seq (.reg [.m 56 7,.m 6 56]) <| .ret
theorem XG:cFn Tryz.prog Pn 57 [.t 6] Po:= ⟨Tryz.f124,_,Tryz.func124,rfl,by kernel_rfl,by kernel_rfl,by kernel_rfl,by kernel_rfl⟩
@[simp] abbrev Rh:Nat:= 63
def aK:ACode:= .seq (.reg [.o 6 .mv [.kb false]]) <| .seq (.reg [.m 7 0,.m 8 1,.o 9 (.bin .geq 0) [.t 7,.t 8],.m 10 9,.mg 11 0 10 true,.mg 12 2 10 true,.g 13 (.bin .leq 0) [.t 11,.t 12] 10 true,.o 14 .pick [.t 10,.t 13,.kb false],.m 6 14]) <| .ret
theorem gr:cFn Tryz.prog Rh 15 [.t 6] aK:= ⟨Tryz.f63,_,Tryz.func63,rfl,by kernel_rfl,by kernel_rfl,by kernel_rfl,by kernel_rfl⟩
@[simp] abbrev Vq:Nat:= 109
def Pp:ACode:= .seq (.reg [.o 9 (.bin .lss 0) [.t 8,.t 7]]) <| .seq (.cond (.t 9) ( .skip) ( .exit 0)) <| .seq (.block 1 ( .seq (.reg [.o 10 (.iadr 1) [.t 6,.t 8],.l 11 10,.m 5 11]) <| .seq (.reg [.m 12 5]) <| .cond (.t 12) ( .reg [.m 13 3,.o 14 (.bin .add 0) [.t 13,.k 1],.m 3 14]) ( .skip))) <| .reg [.o 15 (.bin .add 0) [.t 8,.k 1],.m 8 15]
def Vr:ACode:= .seq (.reg [.o 2 .mv [.k 0]]) <| .seq (.reg [.o 3 .mv [.k 0]]) <| .seq (.seq (.reg [.m 6 0,.n 7 6,.o 8 .mv [.k 0]]) <| .block 0 ( .loop [(6,1)] [3,6,7,8] Pp)) <| .seq (.reg [.m 16 3,.m 2 16]) <| .ret
theorem bw:cFn Tryz.prog Vq 17 [.t 2] Vr:= ⟨Tryz.f109,_,Tryz.func109,rfl,by kernel_rfl,by kernel_rfl,by kernel_rfl,by kernel_rfl⟩
@[simp] abbrev Kh:Nat:= 108
def Ki:ACode:= .seq (.reg [.o 1 .box [.t 0],.o 2 .mv [.kb false]]) <| .seq (.reg [.f 3 0 1,.l 4 3,.o 5 (.call 63 []) [.t 4,.k 1,.k 6],.m 6 5,.fg 7 1 1 6 true,.lg 8 7 6 true,.g 9 (.call 63 []) [.t 8,.k 1,.k 6] 6 true,.o 10 .pick [.t 6,.t 9,.kb false],.m 11 10,.fg 12 2 1 11 true,.lg 13 12 11 true,.g 14 (.len false) [.t 13] 11 true,.fg 15 0 1 11 true,.lg 16 15 11 true,.fg 17 1 1 11 true,.lg 18 17 11 true,.g 19 (.bin .mul 0) [.t 16,.t 18] 11 true,.g 20 (.bin .eql 0) [.t 14,.t 19] 11 true,.o 21 .pick [.t 11,.t 20,.kb false],.m 22 21,.fg 23 2 1 22 true,.lg 24 23 22 true,.g 25 (.call 109 []) [.t 24] 22 true,.g 26 (.bin .leq 0) [.t 25,.k 24] 22 true,.o 27 .pick [.t 22,.t 26,.kb false],.m 2 27]) <| .ret
theorem Ri:cFn Tryz.prog Kh 28 [.t 2] Ki:= ⟨Tryz.f108,_,Tryz.func108,rfl,by kernel_rfl,by kernel_rfl,by kernel_rfl,by kernel_rfl⟩
@[simp] abbrev Rj:Nat:= 156
def Fh:ACode:= .seq (.reg [.o 16 (.bin .lss 0) [.t 15,.t 14]]) <| .seq (.cond (.t 16) ( .skip) ( .exit 0)) <| .seq (.block 1 ( .seq (.reg [.m 17 15,.o 18 (.iadr 1) [.t 13,.t 15],.l 19 18,.m 5 17,.m 6 19]) <| .seq (.reg [.f 20 2 2,.l 21 20,.m 22 5,.o 23 (.iadr 1) [.t 21,.t 22],.l 24 23,.m 25 24,.mg 26 6 25 true,.g 27 (.call 63 []) [.t 26,.k 0,.k 6] 25 true,.g 28 (.un .not) [.t 27] 25 true,.o 29 .pick [.t 25,.t 28,.kb false],.m 30 29,.fg 31 2 2 30 false,.lg 32 31 30 false,.mg 33 5 30 false,.g 34 (.iadr 1) [.t 32,.t 33] 30 false,.lg 35 34 30 false,.g 36 (.un .not) [.t 35] 30 false,.mg 37 36 30 false,.mg 38 6 37 true,.g 39 (.bin .neq 0) [.t 38,.k (-1)] 37 true,.g 40 .pick [.t 37,.t 39,.kb false] 30 false,.o 41 .pick [.t 30,.kb true,.t 40]]) <| .cond (.t 41) ( .seq (.reg [.o 4 .mv [.kb false]]) <| .ret) ( .skip))) <| .reg [.o 42 (.bin .add 0) [.t 15,.k 1],.m 15 42]
def Rk:ACode:= .seq (.reg [.o 2 .box [.t 0],.o 4 .mv [.kb false]]) <| .seq (.seq (.reg [.m 7 1,.n 8 7,.f 9 2 2,.l 10 9,.n 11 10,.o 12 (.bin .neq 0) [.t 8,.t 11]]) <| .cond (.t 12) ( .seq (.reg [.o 4 .mv [.kb false]]) <| .ret) ( .skip)) <| .seq (.seq (.reg [.m 13 1,.n 14 13,.o 15 .mv [.k 0]]) <| .block 0 ( .loop [(13,1)] [2,13,14,15] Fh)) <| .seq (.reg [.o 4 .mv [.kb true]]) <| .ret
theorem Yt:cFn Tryz.prog Rj 43 [.t 4] Rk:= ⟨Tryz.f156,_,Tryz.func156,rfl,by kernel_rfl,by kernel_rfl,by kernel_rfl,by kernel_rfl⟩
@[simp] abbrev Kj:Nat:= 102
def Kk:ACode:= .seq (.reg [.o 2 .box [.t 0],.o 4 .mv [.kb false]]) <| .seq (.reg [.la 5 3 2,.o 6 (.call 108 []) [.t 5],.m 7 6,.g 8 (.load true 3) [.t 2] 7 true,.mg 9 1 7 true,.g 10 (.call 156 []) [.t 8,.t 9] 7 true,.o 11 .pick [.t 7,.t 10,.kb false],.m 4 11]) <| .ret
theorem Rl:cFn Tryz.prog Kj 12 [.t 4] Kk:= ⟨Tryz.f102,_,Tryz.func102,rfl,by kernel_rfl,by kernel_rfl,by kernel_rfl,by kernel_rfl⟩
@[simp] abbrev M5:Nat:= 245
def M6:ACode:= .seq (.reg [.o 2 .box [.t 0],.o 4 .mv [.k 0],.o 5 .mv [.k 0]]) <| .seq (.draw ( .take (.m 6 1) <| .take (.f 7 0 2) <| .take (.m 10 1) <| .take (.f 11 0 2) <| .alt (.l 8 7) ( .take (.o 9 (.bin .rem 0) [.t 6,.t 8]) <| .take (.m 4 9) <| .al (.l 12 11) ( .take (.o 13 (.bin .quo 0) [.t 10,.t 12]) <| .take (.m 5 13) <| .done)) <| .al (.l 12 11) ( .take (.o 13 (.bin .quo 0) [.t 10,.t 12]) <| .al (.l 8 7) ( .take (.o 9 (.bin .rem 0) [.t 6,.t 8]) <| .take (.m 4 9) <| .take (.m 5 13) <| .done)))) <| .ret
theorem UX:cFn Tryz.prog M5 14 [.t 4,.t 5] M6:= ⟨Tryz.f245,_,Tryz.func245,rfl,by kernel_rfl,by kernel_rfl,by kernel_rfl,by kernel_rfl⟩
@[simp] abbrev EC:Nat:= 205
def Kl:ACode:= .seq (.reg [.o 3 .box [.t 0],.o 6 .mv [.k 0]]) <| .seq (.reg [.la 10 3 3,.m 11 1,.o 12 (.call 245 []) [.t 10,.t 11],.m 9 12,.e 13 0 9,.e 14 1 9,.m 7 13,.m 8 14]) <| .seq (.seq (.reg [.m 15 2]) <| .block 0 ( .seq (.reg [.o 17 (.bin .eql 0) [.t 15,.k 1],.m 16 17]) <| .cond (.t 16) ( .reg [.m 18 7,.o 19 (.bin .add 0) [.t 18,.k 1],.m 7 19]) ( .seq (.reg [.o 21 (.bin .eql 0) [.t 15,.k 2],.m 20 21]) <| .cond (.t 20) ( .reg [.m 22 8,.o 23 (.bin .add 0) [.t 22,.k 1],.m 8 23]) ( .seq (.reg [.o 25 (.bin .eql 0) [.t 15,.k 3],.m 24 25]) <| .cond (.t 24) ( .reg [.m 26 7,.o 27 (.bin .sub 0) [.t 26,.k 1],.m 7 27]) ( .seq (.reg [.o 29 (.bin .eql 0) [.t 15,.k 4],.m 28 29]) <| .cond (.t 28) ( .reg [.m 30 8,.o 31 (.bin .sub 0) [.t 30,.k 1],.m 8 31]) ( .seq (.reg [.o 6 .mv [.k (-1)]]) <| .ret)))))) <| .seq (.seq (.reg [.m 32 7,.f 33 0 3,.l 34 33,.o 35 (.bin .sub 0) [.t 34,.k 1],.o 36 (.call 63 []) [.t 32,.k 0,.t 35],.o 37 (.un .not) [.t 36],.m 38 37,.mg 39 8 38 false,.fg 40 1 3 38 false,.lg 41 40 38 false,.g 42 (.bin .sub 0) [.t 41,.k 1] 38 false,.g 43 (.call 63 []) [.t 39,.k 0,.t 42] 38 false,.g 44 (.un .not) [.t 43] 38 false,.o 45 .pick [.t 38,.kb true,.t 44]]) <| .cond (.t 45) ( .seq (.reg [.o 6 .mv [.k (-1)]]) <| .ret) ( .skip)) <| .seq (.reg [.m 46 8,.f 47 0 3,.l 48 47,.o 49 (.bin .mul 0) [.t 46,.t 48],.m 50 7,.o 51 (.bin .add 0) [.t 49,.t 50],.m 6 51]) <| .ret
theorem Rm:cFn Tryz.prog EC 52 [.t 6] Kl:= ⟨Tryz.f205,_,Tryz.func205,rfl,by kernel_rfl,by kernel_rfl,by kernel_rfl,by kernel_rfl⟩
@[simp] abbrev Vs:Nat:= 206
def Vt:ACode:= .seq (.reg [.o 2 .mv [.k 0]]) <| .seq (.reg [.m 3 0,.o 4 (.bin .add 0) [.t 3,.k 1],.o 5 (.bin .rem 0) [.t 4,.k 4],.o 6 (.bin .add 0) [.t 5,.k 1],.m 2 6]) <| .ret
theorem bx:cFn Tryz.prog Vs 7 [.t 2] Vt:= ⟨Tryz.f206,_,Tryz.func206,rfl,by kernel_rfl,by kernel_rfl,by kernel_rfl,by kernel_rfl⟩
@[simp] abbrev Km:Nat:= 154
abbrev F4:Plan:= .take (.g 52 (.bin .neq 0) [.t 49,.t 51] 45 false) <| .take (.o 53 .pick [.t 45,.kb true,.t 52]) <| .done
def Ct:ACode:= .seq (.reg [.o 17 (.bin .lss 0) [.t 16,.t 15]]) <| .seq (.cond (.t 17) ( .skip) ( .exit 0)) <| .seq (.block 1 ( .seq (.reg [.m 18 16,.o 19 (.iadr 1) [.t 14,.t 16],.l 20 19,.m 5 18,.m 6 20]) <| .seq (.seq (.reg [.m 21 6,.o 22 (.bin .eql 0) [.t 21,.k 0]]) <| .cond (.t 22) ( .exit 1) ( .skip)) <| .seq (.reg [.la 23 3 2,.m 24 5,.m 25 6,.o 26 (.call 205 []) [.t 23,.t 24,.t 25],.m 7 26]) <| .seq (.draw ( .take (.m 27 7) <| .take (.o 28 (.bin .lss 0) [.t 27,.k 0]) <| .take (.m 29 28) <| .take (.fg 30 2 2 29 false) <| .take (.mg 32 5 29 false) <| .al (.lg 31 30 29 false) ( .take (.g 33 (.iadr 1) [.t 31,.t 32] 29 false) <| .al (.lg 34 33 29 false) ( .take (.g 35 (.un .not) [.t 34] 29 false) <| .take (.o 36 .pick [.t 29,.kb true,.t 35]) <| .take (.m 37 36) <| .take (.fg 38 2 2 37 false) <| .take (.mg 40 7 37 false) <| .al (.lg 39 38 37 false) ( .take (.g 41 (.iadr 1) [.t 39,.t 40] 37 false) <| .al (.lg 42 41 37 false) ( .take (.g 43 (.un .not) [.t 42] 37 false) <| .take (.o 44 .pick [.t 37,.kb true,.t 43]) <| .take (.m 45 44) <| .take (.mg 46 1 45 false) <| .take (.mg 47 7 45 false) <| .take (.g 48 (.iadr 1) [.t 46,.t 47] 45 false) <| .take (.mg 50 6 45 false) <| .alt (.lg 49 48 45 false) ( .al (.g 51 (.call 206 []) [.t 50] 45 false) F4) <| .al (.g 51 (.call 206 []) [.t 50] 45 false) ( .al (.lg 49 48 45 false) F4))))))) <| .cond (.t 53) ( .seq (.reg [.o 4 .mv [.kb false]]) <| .ret) ( .skip))) <| .reg [.o 54 (.bin .add 0) [.t 16,.k 1],.m 16 54]
def Kn:ACode:= .seq (.reg [.o 2 .box [.t 0],.o 4 .mv [.kb false]]) <| .seq (.seq (.reg [.m 8 1,.n 9 8,.f 10 2 2,.l 11 10,.n 12 11,.o 13 (.bin .neq 0) [.t 9,.t 12]]) <| .cond (.t 13) ( .seq (.reg [.o 4 .mv [.kb false]]) <| .ret) ( .skip)) <| .seq (.seq (.reg [.m 14 1,.n 15 14,.o 16 .mv [.k 0]]) <| .block 0 ( .loop [(1,1),(14,1)] [1,2,14,15,16] Ct)) <| .seq (.reg [.o 4 .mv [.kb true]]) <| .ret
theorem Rn:cFn Tryz.prog Km 55 [.t 4] Kn:= ⟨Tryz.f154,_,Tryz.func154,rfl,by kernel_rfl,by kernel_rfl,by kernel_rfl,by kernel_rfl⟩
@[simp] abbrev Vu:Nat:= 240
def Vv:ACode:= .seq (.reg [.o 4 .mv [.k 0]]) <| .seq (.reg [.m 5 0,.m 6 1,.o 7 (.mnx true) [.t 5,.t 6],.o 8 (.bin .mul 0) [.k 7,.t 7],.m 9 0,.m 10 1,.o 11 (.mnx false) [.t 9,.t 10],.o 12 (.bin .add 0) [.t 8,.t 11],.m 4 12]) <| .ret
theorem b6:cFn Tryz.prog Vu 13 [.t 4] Vv:= ⟨Tryz.f240,_,Tryz.func240,rfl,by kernel_rfl,by kernel_rfl,by kernel_rfl,by kernel_rfl⟩
@[simp] abbrev H6:Nat:= 175
def H7:ACode:= .seq (.reg [.o 2 .mv [.c (.os 1 [])]]) <| .seq (.reg [.m 3 0,.m 4 0,.n 5 4,.m 6 0,.n 7 6,.o 8 (.slice 1 false false true true) [.t 3,.t 5,.t 7],.m 2 8]) <| .ret
theorem OJ:cFn Tryz.prog H6 9 [.t 2] H7:= ⟨Tryz.f175,_,Tryz.func175,rfl,by kernel_rfl,by kernel_rfl,by kernel_rfl,by kernel_rfl⟩
@[simp] abbrev Jb:Nat:= 195
abbrev DE:Plan:= .al (.o 35 (.call 240 []) [.t 27,.t 34]) ( .al (.o 36 (.bsl 1) [.t 35]) ( .al (.o 37 (.app 1 8 true) [.t 23,.t 36]) ( .take (.m 7 37) <| .done)))
abbrev FU:Plan:= .al (.o 32 (.call 205 []) [.t 29,.t 30,.t 31]) ( .take (.o 33 (.iadr 1) [.t 28,.t 32]) <| .al (.l 34 33) DE)
def Cg:ACode:= .seq (.reg [.o 13 (.bin .lss 0) [.t 12,.t 11]]) <| .seq (.cond (.t 13) ( .skip) ( .exit 0)) <| .seq (.block 1 ( .seq (.reg [.m 14 12,.o 15 (.iadr 1) [.t 10,.t 12],.l 16 15,.m 8 14,.m 9 16]) <| .seq (.reg [.m 17 9,.o 18 (.bin .eql 0) [.t 17,.k 1],.m 19 18,.mg 20 9 19 false,.g 21 (.bin .eql 0) [.t 20,.k 2] 19 false,.o 22 .pick [.t 19,.kb true,.t 21]]) <| .cond (.t 22) ( .draw ( .take (.m 23 7) <| .take (.m 24 1) <| .take (.m 25 8) <| .take (.o 26 (.iadr 1) [.t 24,.t 25]) <| .take (.m 28 1) <| .take (.m 30 8) <| .take (.m 31 9) <| .alt (.l 27 26) ( .al (.la 29 3 3) FU) <| .al (.la 29 3 3) ( .alt (.l 27 26) FU <| .al (.o 32 (.call 205 []) [.t 29,.t 30,.t 31]) ( .take (.o 33 (.iadr 1) [.t 28,.t 32]) <| .alt (.l 27 26) ( .al (.l 34 33) DE) <| .al (.l 34 33) ( .al (.l 27 26) DE))))) ( .skip))) <| .reg [.o 38 (.bin .add 0) [.t 12,.k 1],.m 12 38]
def Jc:ACode:= .seq (.reg [.o 3 .box [.t 0],.o 6 .mv [.c (.os 1 [])]]) <| .seq (.reg [.o 7 .mv [.c (.os 1 [])]]) <| .seq (.seq (.reg [.m 10 2,.n 11 10,.o 12 .mv [.k 0]]) <| .block 0 ( .loop [(1,1),(7,1),(10,1)] [1,3,7,10,11,12] Cg)) <| .seq (.reg [.m 39 7,.o 40 (.call 175 []) [.t 39],.m 6 40]) <| .ret
theorem Qh:cFn Tryz.prog Jb 41 [.t 6] Jc:= ⟨Tryz.f195,_,Tryz.func195,rfl,by kernel_rfl,by kernel_rfl,by kernel_rfl,by kernel_rfl⟩
@[simp] def md0 (f:Nat):List Bool:= if f = 89 ∨ f = 90 ∨ f = 152 ∨ f = 27 ∨ f = 91 then [true,false] else if f = 175 ∨ f = 173 ∨ f = 188 ∨ f = 196 ∨ f = 197 then [true] else []
theorem EZ (xs:List Int):SoundAt Tryz.prog H6 [.os 1 (AB xs)] (.os 1 (AB xs)) [.bot]:= by
 refine AG (md:= md0) (ms:= [false]) OJ (by simp) ?_
 simp [H7]
theorem A7 (x lo hi:Int):SoundAt Tryz.prog Mn [.v (.int .i64 x),.v (.int .i64 lo),.v (.int .i64 hi)] (.v (.bool (decide (lo ≤ x ∧ x ≤ hi)))) [.bot,.bot,.bot]:= by
 refine AG (md:= md0) (ms:= [false,false,false]) bu (by simp) ?_
 simp [Vp]
 constructor
 ·intro h; simp [h]
 ·intro h; omega
theorem Pq (bs:List Bool) (hb:bs.length < 2 ^ 40):SoundAt Tryz.prog Pk [.sl 1 1 (AC bs)] (.v (.int .i64 (BM bs))) [.bot]:= by
 refine AG (md:= md0) (ms:= [false]) XF (by simp) ?_
 simp [Pm]
 refine AF (fun m E H => ∃ i:Nat,m = bs.length - i ∧ i ≤ bs.length ∧ H = [] ∧ E = [(0,.sl 1 1 (AC bs)),(3,.v (.int .i64 (BM (bs.take i)))),(4,.v (.int .i64 i))]) bs.length ⟨0,by simp [BM]⟩ ?_
 rintro J hJ m E H ⟨i,rfl,hi,rfl,rfl⟩
 simp [Lu]
 refine ⟨fun h => ?_,fun h => ?_⟩
 ·have e:= Qg bs i h
  have e3:= JO (bs.take i)
  rw [List.length_take] at e3
  simp [h]
  refine ⟨fun hb => ⟨by omega,by omega,_,by omega,hJ _ _ _ ⟨i + 1,rfl,h,rfl,?_⟩⟩,fun hb => ⟨by omega,_,by omega,hJ _ _ _ ⟨i + 1,rfl,h,rfl,?_⟩⟩⟩ <;> simp [e,hb]
 ·have:i = bs.length:= by omega
  subst this
  simp
theorem Ao (W T:Int) (cs:List Bool) (hb:cs.length < 2 ^ 40):SoundAt Tryz.prog Kd [.agg [.v (.int .i64 W),.v (.int .i64 T),.sl 1 1 (AC cs)]] (.v (.bool (Am W T cs))) [.bot]:= by
 refine AG (md:= md0) (ms:= [false]) RZ (by simp) ?_
 simp [Ke]
 refine AA (A7 W 1 6) ?_
 simp
 refine ⟨fun h h' => ?_,fun h => ?_⟩
 ·refine AA (A7 T 1 6) ?_
  have hx:T ≤ 6 → W * T ≤ 36 ∧ (1 ≤ T → 1 ≤ W * T):= fun ht => ⟨(by
   by_cases h0:0 ≤ T
   ·exact Int.mul_le_mul h' ht h0 (by omega)
   ·have:W * T ≤ 0:= Int.mul_nonpos_of_nonneg_of_nonpos (by omega) (by omega)
    omega),fun h1 => Int.mul_pos (by omega) (by omega)⟩
  simp
  refine ⟨fun h1 h2 => ⟨by have:= hx h2; omega,fun h3 => ?_,fun h3 => ?_⟩,fun h1 => ?_⟩
  ·refine AA (Pq cs hb) ?_
   simp [Am,h,h',h1,h2,h3]
   omega
  ·simp [Am]; omega
  ·simp [Am]; omega
 ·simp [Am]; omega
theorem Ro (n:Int) (h:0 ≤ n) (h2:n < 2 ^ 60):SoundAt Tryz.prog Rb [.v (.int .i64 n)] (.v (.int .i64 (CO n))) [.bot]:= by
 refine AG (md:= md0) (ms:= [false]) Yq (by simp) ?_
 simp [Rc,CO]
 omega
theorem Yu (a b:Int) (h1:0 ≤ a ∧ a ≤ 6) (h2:0 ≤ b ∧ b ≤ 6):SoundAt Tryz.prog Rf [.v (.int .i64 a),.v (.int .i64 b)] (.v (.int .i64 (aB a b))) [.bot,.bot]:= by
 refine AG (md:= md0) (ms:= [false,false]) Ys (by simp) ?_
 simp [Rg]
 refine AA (A7 a 0 6) ?_
 simp [h1]
 refine AA (A7 b 0 6) ?_
 simp [h2,aB]
 rw [Int.min_def,Int.max_def]
 (repeat' split) <;> omega
theorem Db (W T:Int) (cs:List Bool) (k way:Int) (hr:Am W T cs = true) (h0:0 ≤ k) (h1:k < cs.length):
  SoundAt Tryz.prog JB [.agg [.v (.int .i64 W),.v (.int .i64 T),.sl 1 1 (AC cs)],.v (.int .i64 k),.v (.int .i64 way)] (.v (.int .i64 (AH W T k way))) [.bot,.bot,.bot]:= by
 refine AG (md:= md0) (ms:= [false,false,false]) Yp (by simp) ?_
 obtain ⟨w1,w2,t1,t2,l1,_⟩:= BT hr
 have hl:= Ab hr
 have hxy:= Yk (T:= T) (k:= k) w1 h0 (by omega)
 have e1:AH W T k way = if way = 1 ∧ k % W < W - 1 then k + 1 else if way = 2 ∧ k / W < T - 1 then k + W else if way = 3 ∧ 0 < k % W then k - 1 else if way = 4 ∧ 0 < k / W then k - W else -1:= rfl
 rw [e1]
 clear e1 hr
 generalize hA:k % W = A at *
 generalize hB:k / W = B at *
 by_cases c1:way = 1
 ·subst c1; simp [Ew,hA,hB]; omega
 by_cases c2:way = 2
 ·subst c2; simp [Ew,hA,hB]; omega
 by_cases c3:way = 3
 ·subst c3; simp [Ew,hA,hB]; omega
 by_cases c4:way = 4
 ·subst c4; simp [Ew,hA,hB]; omega
 simp [Ew,c1,c2,c3,c4]
theorem Cu (W T:Int) (cs:List Bool) (ds:List Int) (hb:cs.length < 2 ^ 40) (hd:ds.length < 2 ^ 40):
  SoundAt Tryz.prog Kf [.agg [.v (.int .i64 W),.v (.int .i64 T),.sl 1 1 (AC cs)],.sl 1 1 (AB ds)] (.v (.bool (Am W T cs && B4 cs ds))) [.bot,.bot]:= by
 refine AG (md:= md0) (ms:= [false,false]) Ra (by simp) ?_
 simp [Kg]
 refine AA (Ao W T cs hb) ?_
 simp
 refine ⟨fun hr => ⟨fun hl => ?_,fun hl => ?_⟩,fun hr => ?_⟩
 ·intro _
  simp [B4]; omega
 ·have hl':ds.length = cs.length:= by omega
  refine AF (fun m E H => ∃ i:Nat,m = ds.length - i ∧ i ≤ ds.length ∧ XB i (fun k => Ls cs ds k) = true ∧ H = [some (.box [.v (.int .i64 W),.v (.int .i64 T),.sl 1 1 (AC cs)])] ∧ E = [(1,.sl 1 1 (AB ds)),(2,.lp 0 0 0 0),(5,.v (.int .i64 i))]) ds.length ⟨0,by simp [Hz]⟩ ?_
  rintro J hJ m E H ⟨i,rfl,hi,ha,rfl,rfl⟩
  by_cases h:i < ds.length
  ·have h2:i < cs.length:= by omega
   have next:Ls cs ds i = true → CL J (ds.length - i) [(1,.sl 1 1 (AB ds)),(2,.lp 0 0 0 0),(5,.v (.int .i64 (i + 1)))] [some (.box [.v (.int .i64 W),.v (.int .i64 T),.sl 1 1 (AC cs)])]:=
    fun hd => ⟨_,by omega,hJ _ _ _ ⟨i + 1,rfl,h,by rw [H3,ha,hd]; rfl,rfl,rfl⟩⟩
   have stop:Ls cs ds i = false → B4 cs ds = false:= fun hd => by simp only [B4,hl',decide_true,Bool.true_and]; exact HS h2 hd
   cases hc:atb cs i with
   | true =>
     simp [Cs,h,h2,hc]
     refine AA (A7 (ati ds i) 0 6) ?_
     simp [Ls,hc] at next stop ⊢
     (repeat' first | assumption | omega | apply And.intro | intro _) <;> first | omega | exact stop (by omega) | exact next (by omega) (by omega)
   | false =>
     simp [Cs,h,h2,hc]
     simp [Ls,hc] at next stop ⊢
     exact ⟨fun hx => fun _ => stop hx,fun hx => ⟨by omega,next hx⟩⟩
  ·have:i = ds.length:= by omega
   subst this
   simp [Cs]
   simp [B4,hr,hl'] at ha ⊢
   exact ha
 ·simp [hr]
end Go.Proofs.Dev
