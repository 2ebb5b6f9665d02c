/- Contracts of the functions of the program over slots and rows, each proved against the program itself; no condition beyond those that each theorem names. -/
import Derived.Test.YtfkmfobbgoflgaaGreatDoorAI
import Derived.Test.YtfkmfobbgoflgaaGreatDoorProg
import Derived.Test.YtfkmfobbgoflgaaGreatDoorAY
import Derived.Test.YtfkmfobbgoflgaaGreatDoorAJ
import Derived.Test.YtfkmfobbgoflgaaGreatDoorAV
import Derived.Test.YtfkmfobbgoflgaaGreatDoorAW
import Derived.Test.YtfkmfobbgoflgaaGreatDoorAX
import Derived.Test.YtfkmfobbgoflgaaGreatDoorAM
import Derived.Test.YtfkmfobbgoflgaaGreatDoorAQ
import Derived.Test.YtfkmfobbgoflgaaGreatDoorAN
set_option linter.unusedSimpArgs false
set_option linter.unusedVariables false
set_option maxRecDepth 100000
namespace Go.Proofs.Dev
@[simp] abbrev I1 : Nat := 76
def Ce : ACode := .seq (.seq (.reg [.m 21 7, .f 22 0 2, .l 23 22, .o 24 (.bin .lss 0) [.t 21, .t 23]]) <| .cond (.t 24) ( .skip) ( .exit 2)) <| .seq (.block 3 ( .seq (.reg [.m 27 6, .f 28 0 2, .l 29 28, .o 30 (.bin .mul 0) [.t 27, .t 29], .m 31 7, .o 32 (.bin .add 0) [.t 30, .t 31], .m 8 32]) <| .seq (.reg [.f 33 2 2, .l 34 33, .m 35 8, .o 36 (.iadr 1) [.t 34, .t 35], .l 37 36]) <| .cond (.t 37) ( .reg [.m 38 5, .o 39 (.bsl 1) [.c (.v (.string ⟨#[35]⟩)), .c (.v (.string ⟨#[101]⟩)), .c (.v (.string ⟨#[110]⟩)), .c (.v (.string ⟨#[119]⟩)), .c (.v (.string ⟨#[115]⟩))], .m 40 1, .m 41 8, .o 42 (.iadr 1) [.t 40, .t 41], .l 43 42, .o 44 (.iadr 1) [.t 39, .t 43], .l 45 44, .o 46 (.bin .add 1) [.t 38, .t 45], .m 5 46]) ( .reg [.m 47 5, .o 48 (.bin .add 1) [.t 47, .c (.v (.string ⟨#[46]⟩))], .m 5 48]))) <| .reg [.m 25 7, .o 26 (.bin .add 0) [.t 25, .k 1], .m 7 26]
def F0 : ACode := .seq (.seq (.reg [.m 12 6, .o 13 (.bin .geq 0) [.t 12, .k 0], .m 14 13, .g 15 (.load true 3) [.t 2] 14 true, .mg 16 1 14 true, .g 17 (.call 122 []) [.t 15, .t 16] 14 true, .o 18 .pick [.t 14, .t 17, .kb false]]) <| .cond (.t 18) ( .skip) ( .exit 0)) <| .seq (.block 1 ( .seq (.seq (.reg [.o 7 .mv [.k 0]]) <| .block 2 ( .loop [(1, 1)] [1, 2, 5, 6, 7] Ce)) <| .seq (.reg [.m 49 6, .o 50 (.bin .gtr 0) [.t 49, .k 0]]) <| .cond (.t 50) ( .reg [.m 51 5, .o 52 (.bin .add 1) [.t 51, .c (.v (.string ⟨#[47]⟩))], .m 5 52]) ( .skip))) <| .reg [.m 19 6, .o 20 (.bin .sub 0) [.t 19, .k 1], .m 6 20]
def NY : ACode := .seq (.reg [.o 2 .box [.t 0], .o 4 .mv [.c (.v (.string ⟨#[]⟩))]]) <| .seq (.reg [.o 5 .mv [.c (.v (.string ⟨#[]⟩))]]) <| .seq (.seq (.reg [.f 9 1 2, .l 10 9, .o 11 (.bin .sub 0) [.t 10, .k 1], .m 6 11]) <| .block 0 ( .loop [(1, 1)] [1, 2, 5, 6] F0)) <| .seq (.reg [.m 53 5, .m 4 53]) <| .ret
theorem Uu : cFn Tryz.prog I1 54 [.t 4] NY := ⟨Tryz.f76, _, Tryz.func76, rfl, by kernel_rfl, by kernel_rfl, by kernel_rfl, by kernel_rfl⟩
@[simp] abbrev K3 : Nat := 181
def Gk : ACode := .seq (.reg [.o 4 .mv [.c (.v (.int .u8 (0)))]]) <| .seq (.seq (.reg [.f 5 2 1, .l 6 5, .m 7 0, .o 8 (.iadr 1) [.t 6, .t 7], .l 9 8, .o 10 (.un .not) [.t 9]]) <| .cond (.t 10) ( .seq (.reg [.o 4 .mv [.c (.v (.int .u8 (46)))]]) <| .ret) ( .skip)) <| .seq (.reg [.l 11 2, .m 12 0, .o 13 (.iadr 1) [.t 11, .t 12], .l 14 13, .o 15 .sidx [.c (.v (.string ⟨#[35, 101, 110, 119, 115]⟩)), .t 14], .m 4 15]) <| .ret
theorem Rz : cFn Tryz.prog K3 16 [.t 4] Gk := ⟨Tryz.f181, _, Tryz.func181, rfl, by kernel_rfl, by kernel_rfl, by kernel_rfl, by kernel_rfl⟩
@[simp] abbrev NZ : Nat := 128
def Na : ACode := .seq (.reg [.o 2 .box [.t 0], .o 3 .box [.t 1], .o 4 .mv [.c (.v (.string ⟨#[]⟩))]]) <| .seq (.seq (.reg [.la 5 3 2, .l 6 3, .o 7 (.call 179 []) [.t 5, .t 6], .o 8 (.un .not) [.t 7]]) <| .cond (.t 8) ( .seq (.reg [.o 4 .mv [.c (.v (.string ⟨#[]⟩))]]) <| .ret) ( .skip)) <| .seq (.reg [.la 9 3 2, .o 10 (.mkfn 181) [.t 2, .t 3], .o 11 (.call 180 []) [.t 9, .t 10], .m 4 11]) <| .ret
theorem Uv : cFn Tryz.prog NZ 12 [.t 4] Na := ⟨Tryz.f128, _, Tryz.func128, rfl, by kernel_rfl, by kernel_rfl, by kernel_rfl, by kernel_rfl⟩
@[simp] abbrev WJ : Nat := 131
def WK : ACode := .seq (.reg [.o 2 .mv [.c (.v (.string ⟨#[]⟩))]]) <| .seq (.seq (.reg [.m 3 0]) <| .cond (.t 3) ( .seq (.reg [.o 2 .mv [.c (.v (.string ⟨#[121, 101, 115]⟩))]]) <| .ret) ( .skip)) <| .seq (.reg [.o 2 .mv [.c (.v (.string ⟨#[110, 111]⟩))]]) <| .ret
theorem bf : cFn Tryz.prog WJ 4 [.t 2] WK := ⟨Tryz.f131, _, Tryz.func131, rfl, by kernel_rfl, by kernel_rfl, by kernel_rfl, by kernel_rfl⟩
@[simp] abbrev Ot : Nat := 74
def Ou : ACode := .seq (.reg [.o 4 .mv [.c (.v (.string ⟨#[]⟩))]]) <| .seq (.seq (.reg [.m 5 0]) <| .cond (.t 5) ( .seq (.reg [.m 6 1, .m 4 6]) <| .ret) ( .skip)) <| .seq (.reg [.o 4 .mv [.c (.v (.string ⟨#[110, 111]⟩))]]) <| .ret
theorem Vr : cFn Tryz.prog Ot 7 [.t 4] Ou := ⟨Tryz.f74, _, Tryz.func74, rfl, by kernel_rfl, by kernel_rfl, by kernel_rfl, by kernel_rfl⟩
@[simp] abbrev Ad : Nat := 61
def DR : ACode := .seq (.reg [.o 29 (.bin .lss 0) [.t 28, .t 27]]) <| .seq (.cond (.t 29) ( .skip) ( .exit 1)) <| .seq (.block 2 ( .seq (.reg [.o 30 (.iadr 3) [.t 26, .t 28], .la 31 3 30, .o 9 (.alloc dz) [], .s (.store 3) [.t 9, .t 31]]) <| .reg [.m 32 0, .la 33 3 9, .o 34 (.call 65 []) [.t 32, .t 33]])) <| .reg [.o 35 (.bin .add 0) [.t 28, .k 1], .m 28 35]
abbrev BS : Plan := .al (.o 117 (.call 133 []) [.t 108, .t 112, .t 116]) ( .take (.m 104 117) <| .take (.e 118 0 104) <| .take (.e 119 1 104) <| .take (.m 10 118) <| .take (.m 11 119) <| .done)
abbrev BT : Plan := .al (.o 100 (.call 132 []) [.t 91, .t 95, .t 99]) ( .al (.o 101 (.call 131 []) [.t 100]) ( .take (.m 4 101) <| .done))
abbrev I2 : Plan := .al (.o 84 (.call 101 []) [.t 79, .t 83]) ( .al (.o 85 (.call 131 []) [.t 84]) ( .take (.m 4 85) <| .done))
abbrev I3 : Plan := .al (.o 49 (.call 128 []) [.t 44, .t 48]) ( .take (.m 4 49) <| .done)
abbrev I4 : Plan := .al (.o 60 (.call 129 []) [.t 55, .t 59]) ( .take (.m 4 60) <| .done)
def Aj : ACode := .seq (.reg [.o 4 .mv [.c (.v (.string ⟨#[]⟩))]]) <| .seq (.seq (.reg [.m 13 1, .o 14 (.call 52 []) [.t 13], .m 12 14, .e 15 0 12, .e 16 1 12, .o 5 (.alloc dz) [], .s (.store 3) [.t 5, .t 15], .m 6 16]) <| .seq (.reg [.m 17 6]) <| .cond (.t 17) ( .seq (.seq (.reg [.m 18 0, .la 19 3 5, .o 20 (.call 65 []) [.t 18, .t 19]]) <| .cond (.t 20) ( .seq (.reg [.o 4 .mv [.c (.v (.string ⟨#[111, 107]⟩))]]) <| .ret) ( .skip)) <| .seq (.reg [.o 4 .mv [.c (.v (.string ⟨#[110, 111]⟩))]]) <| .ret) ( .skip)) <| .seq (.seq (.reg [.m 21 1]) <| .block 0 ( .seq (.reg [.o 23 (.bin .eql 1) [.t 21, .c (.v (.string ⟨#[101, 110, 100]⟩))], .m 22 23]) <| .cond (.t 22) ( .seq (.reg [.m 24 0, .o 25 (.call 127 []) [.t 24], .m 7 25]) <| .seq (.seq (.reg [.m 26 7, .n 27 26, .o 28 .mv [.k 0]]) <| .block 1 ( .loop [(7, 3), (26, 3)] [0, 7, 26, 27, 28, 126] DR)) <| .seq (.seq (.reg [.m 36 7, .n 37 36, .o 38 (.bin .eql 0) [.t 37, .k 0]]) <| .cond (.t 38) ( .seq (.reg [.o 4 .mv [.c (.v (.string ⟨#[110, 111, 110, 101]⟩))]]) <| .ret) ( .skip)) <| .seq (.reg [.o 4 .mv [.c (.v (.string ⟨#[111, 107]⟩))]]) <| .ret) ( .seq (.reg [.o 40 (.bin .eql 1) [.t 21, .c (.v (.string ⟨#[115, 104, 111, 119]⟩))], .m 39 40]) <| .cond (.t 39) ( .seq (.draw ( .take (.m 41 0) <| .take (.o 42 .nilck [.t 41]) <| .take (.f 43 0 42) <| .take (.m 45 0) <| .take (.o 46 .nilck [.t 45]) <| .take (.f 47 4 46) <| .alt (.la 44 3 43) ( .al (.l 48 47) I3) <| .al (.l 48 47) ( .al (.la 44 3 43) I3))) <| .ret) ( .seq (.reg [.o 51 (.bin .eql 1) [.t 21, .c (.v (.string ⟨#[100, 105, 103, 105, 116, 115]⟩))], .m 50 51]) <| .cond (.t 50) ( .seq (.draw ( .take (.m 52 0) <| .take (.o 53 .nilck [.t 52]) <| .take (.f 54 0 53) <| .take (.m 56 0) <| .take (.o 57 .nilck [.t 56]) <| .take (.f 58 3 57) <| .alt (.la 55 3 54) ( .al (.l 59 58) I4) <| .al (.l 59 58) ( .al (.la 55 3 54) I4))) <| .ret) ( .seq (.reg [.o 62 (.bin .eql 1) [.t 21, .c (.v (.string ⟨#[108, 101, 102, 116]⟩))], .m 61 62]) <| .cond (.t 61) ( .seq (.reg [.m 63 0, .o 64 (.call 130 []) [.t 63], .o 65 (.call 64 []) [.t 64], .m 4 65]) <| .ret) ( .seq (.reg [.o 67 (.bin .eql 1) [.t 21, .c (.v (.string ⟨#[112, 97, 115, 116]⟩))], .m 66 67]) <| .cond (.t 66) ( .seq (.reg [.m 68 0, .o 69 .nilck [.t 68], .f 70 5 69, .l 71 70, .n 72 71, .o 73 (.call 64 []) [.t 72], .m 4 73]) <| .ret) ( .seq (.reg [.o 75 (.bin .eql 1) [.t 21, .c (.v (.string ⟨#[115, 111, 108, 118, 101, 100]⟩))], .m 74 75]) <| .cond (.t 74) ( .seq (.draw ( .take (.m 76 0) <| .take (.o 77 .nilck [.t 76]) <| .take (.f 78 0 77) <| .take (.m 80 0) <| .take (.o 81 .nilck [.t 80]) <| .take (.f 82 4 81) <| .alt (.la 79 3 78) ( .al (.l 83 82) I2) <| .al (.l 83 82) ( .al (.la 79 3 78) I2))) <| .ret) ( .seq (.reg [.o 87 (.bin .eql 1) [.t 21, .c (.v (.string ⟨#[100, 101, 97, 100]⟩))], .m 86 87]) <| .cond (.t 86) ( .seq (.draw ( .take (.m 88 0) <| .take (.o 89 .nilck [.t 88]) <| .take (.f 90 0 89) <| .take (.m 92 0) <| .take (.o 93 .nilck [.t 92]) <| .take (.f 94 3 93) <| .take (.m 96 0) <| .take (.o 97 .nilck [.t 96]) <| .take (.f 98 4 97) <| .alt (.la 91 3 90) ( .alt (.l 95 94) ( .al (.l 99 98) BT) <| .al (.l 99 98) ( .al (.l 95 94) BT)) <| .alt (.l 95 94) ( .alt (.la 91 3 90) ( .al (.l 99 98) BT) <| .al (.l 99 98) ( .al (.la 91 3 90) BT)) <| .al (.l 99 98) ( .alt (.la 91 3 90) ( .al (.l 95 94) BT) <| .al (.l 95 94) ( .al (.la 91 3 90) BT)))) <| .ret) ( .seq (.reg [.o 103 (.bin .eql 1) [.t 21, .c (.v (.string ⟨#[104, 105, 110, 116]⟩))], .m 102 103]) <| .cond (.t 102) ( .seq (.draw ( .take (.m 105 0) <| .take (.o 106 .nilck [.t 105]) <| .take (.f 107 0 106) <| .take (.m 109 0) <| .take (.o 110 .nilck [.t 109]) <| .take (.f 111 3 110) <| .take (.m 113 0) <| .take (.o 114 .nilck [.t 113]) <| .take (.f 115 4 114) <| .alt (.la 108 3 107) ( .alt (.l 112 111) ( .al (.l 116 115) BS) <| .al (.l 116 115) ( .al (.l 112 111) BS)) <| .alt (.l 112 111) ( .alt (.la 108 3 107) ( .al (.l 116 115) BS) <| .al (.l 116 115) ( .al (.la 108 3 107) BS)) <| .al (.l 116 115) ( .alt (.la 108 3 107) ( .al (.l 112 111) BS) <| .al (.l 112 111) ( .al (.la 108 3 107) BS)))) <| .seq (.seq (.reg [.m 120 10, .o 121 (.bin .lss 0) [.t 120, .k 0]]) <| .cond (.t 121) ( .seq (.reg [.o 4 .mv [.c (.v (.string ⟨#[110, 111, 110, 101]⟩))]]) <| .ret) ( .skip)) <| .seq (.reg [.m 122 10, .m 123 11, .o 124 (.build dz [(0, 1), (1, 1), (2, 1)]) [.k 0, .t 122, .t 123], .o 125 (.call 20 []) [.t 124], .m 4 125]) <| .ret) ( .skip)))))))))) <| .seq (.reg [.o 4 .mv [.c (.v (.string ⟨#[119, 104, 97, 116]⟩))]]) <| .ret
theorem Ao : cFn Tryz.prog Ad 126 [.t 4] Aj := ⟨Tryz.f61, _, Tryz.func61, rfl, by kernel_rfl, by kernel_rfl, by kernel_rfl, by kernel_rfl⟩
@[simp] abbrev I5 : Nat := 19
def I6 : ACode := .seq (.reg [.o 2 .box [.t 0], .o 4 (.alloc bz) [], .o 5 .mv [.c (.v (.string ⟨#[]⟩))]]) <| .seq (.seq (.reg [.la 8 6 2, .o 9 (.call 38 []) [.t 8], .o 10 (.un .not) [.t 9]]) <| .cond (.t 10) ( .seq (.reg [.o 11 (.build bz []) [], .s (.store 6) [.t 4, .t 11], .o 5 .mv [.c (.v (.string ⟨#[]⟩))]]) <| .ret) ( .skip)) <| .seq (.reg [.la 12 6 2, .o 13 (.call 60 []) [.t 12], .o 6 (.alloc bz) [], .s (.store 6) [.t 6, .t 13]]) <| .seq (.reg [.m 14 1, .o 15 (.call 61 []) [.t 6, .t 14], .m 7 15]) <| .seq (.reg [.la 16 6 6, .m 17 7, .s (.store 6) [.t 4, .t 16], .m 5 17]) <| .ret
theorem Uw : cFn Tryz.prog I5 18 [.c 4 true 6, .t 5] I6 := ⟨Tryz.f19, _, Tryz.func19, rfl, by kernel_rfl, by kernel_rfl, by kernel_rfl, by kernel_rfl⟩
open Go.RowKit
abbrev ltE (o : List UInt8) (ls : List Int) (y : Int) : ES := [(1, .sl 1 1 (AB ls)), (2, .lp 0 0 0 0), (5, .v (tx o)), (6, .v (.int .i64 y))]
abbrev oI (o : List UInt8) (ls : List Int) (y x : Int) : ES := [(1, .sl 1 1 (AB ls)), (2, .lp 0 0 0 0), (5, .v (tx o)), (6, .v (.int .i64 y)), (7, .v (.int .i64 x))]
set_option maxHeartbeats 2000000 in
theorem oJ (W T : Nat) (cs : List Bool) (ls : List Int) (o : List UInt8) (y : Nat) (hW : W ≤ 6) (hT : T ≤ 6) (hy : y < T) (hl : cs.length = T * W) (hd : ls.length = cs.length) (hw : YM ls) (ho : o.length ≤ 100) (Qc : AExit → ES → AH → Prop)
  (hend : ∀ E, get E 1 = .sl 1 1 (AB ls) → get E 2 = .lp 0 0 0 0 → get E 5 = .v (tx (o ++ Nl (sgW cs ls) W y)) → get E 6 = .v (.int .i64 y) → Qc (.exit 2) E [some (.box [.v (.int .i64 W), .v (.int .i64 T), .sl 1 1 (AC cs)])]) :
  EO [(1, 1)] [1, 2, 5, 6, 7] (awp Tryz.prog mdT Ce) Qc (oI o ls y 0) [some (.box [.v (.int .i64 W), .v (.int .i64 T), .sl 1 1 (AC cs)])] := by
 refine AF (fun m E H => ∃ x : Nat, m = W - x ∧ x ≤ W ∧ E = oI (o ++ (Nl (sgW cs ls) W y).take x) ls y x ∧ H = [some (.box [.v (.int .i64 W), .v (.int .i64 T), .sl 1 1 (AC cs)])]) W ⟨0, by simp⟩ ?_
 rintro J hJ m E H ⟨x, rfl, hx, rfl, rfl⟩
 by_cases h : x < W
 ·have h' : (x : Int) < (W : Int) := by omega
  have hc := Wn (T := T) hy h
  have hp : T * W ≤ 6 * 6 := Nat.mul_le_mul hT hW
  have e1 : (y : Int) * (W : Int) = ((y * W : Nat) : Int) := by simp
  have hk1 : (y * W + x : Int) < (cs.length : Int) := by rw [e1]; omega
  have hk2 : (y * W + x : Int) < (ls.length : Int) := by rw [e1]; omega
  have hk0 : (0 : Int) ≤ (y : Int) * (W : Int) := by rw [e1]; omega
  have hk3 : (y : Int) * (W : Int) ≤ 36 := by rw [e1]; omega
  have e2 : ((y : Int) * (W : Int) + (x : Int)) = ((y * W + x : Nat) : Int) := by rw [Int.natCast_add, e1]
  have tk := cy (sgW cs ls) y h
  have hlt : ((Nl (sgW cs ls) W y).take x).length = x := by simp; omega
  have nx := hJ (W - (x + 1)) (oI (o ++ (Nl (sgW cs ls) W y).take (x + 1)) ls y ((x : Int) + 1)) _ ⟨x + 1, rfl, h, by simp, rfl⟩
  rw [tk, ← List.append_assoc] at nx
  generalize hr : o ++ (Nl (sgW cs ls) W y).take x = r at *
  have hrl : r.length ≤ 106 := by rw [← hr]; simp; omega
  have es : sgW cs ls (y * W + x) = if atb cs ((y : Int) * (W : Int) + (x : Int)) then nH (ati ls ((y : Int) * (W : Int) + (x : Int))) else 46 := by rw [e2]; rfl
  rw [es] at nx
  obtain ⟨w0, w1⟩ := hw ((y : Int) * (W : Int) + (x : Int)) (by omega) hk2
  cases hb : atb cs ((y : Int) * (W : Int) + (x : Int)) with
  | true =>
    rw [hb] at nx
    simp at nx
    have hc5 : ati ls ((y : Int) * (W : Int) + (x : Int)) = 0 ∨ ati ls ((y : Int) * (W : Int) + (x : Int)) = 1 ∨ ati ls ((y : Int) * (W : Int) + (x : Int)) = 2 ∨ ati ls ((y : Int) * (W : Int) + (x : Int)) = 3 ∨ ati ls ((y : Int) * (W : Int) + (x : Int)) = 4 := by omega
    rcases hc5 with h5 | h5 | h5 | h5 | h5 <;>
    ·rw [h5] at nx
     simp [nH] at nx
     simp [Ce, h', hb, hk1, hk2, h5]
     (repeat' first | omega | apply And.intro) <;> exact ⟨_, by omega, nx⟩
  | false =>
    rw [hb] at nx
    simp at nx
    simp [Ce, h', hb, hk1, hk2]
    (repeat' first | omega | apply And.intro) <;> exact ⟨_, by omega, nx⟩
 ·have : x = W := by omega
  subst this
  simp [Ce]
  exact hend _ rfl rfl (by rw [List.take_of_length_le (by simp)]; rfl) rfl
set_option maxHeartbeats 2000000 in
theorem Sy (W T : Nat) (cs : List Bool) (ls : List Int) (hr : A0 W T cs = true) (hy : AO W T cs ls = true) :
  SoundAt Tryz.prog I1 [.agg [.v (.int .i64 W), .v (.int .i64 T), .sl 1 1 (AC cs)], .sl 1 1 (AB ls)] (.v (tx (VA W T cs ls))) [.bot, .bot] := by
 have hw := YN hy
 have hll : ls.length = cs.length := by simp only [AO, Bool.and_eq_true, decide_eq_true_eq] at hy; exact hy.1
 have hr' := hr
 simp only [A0, decide_eq_true_eq] at hr'
 obtain ⟨w1, w2, t1, t2, hl, _⟩ := hr'
 have hl' : cs.length = T * W := by
  have : (cs.length : Int) = ((T * W : Nat) : Int) := by rw [hl, Int.natCast_mul, Int.mul_comm]
  exact Int.ofNat.inj this
 have tot := Tm (sgW cs ls) T (W := W)
 have hp : T * (W + 1) ≤ 6 * 7 := Nat.mul_le_mul (by omega) (by omega)
 have hp2 : T * W ≤ 6 * 6 := Nat.mul_le_mul (by omega) (by omega)
 have pv := BV W T cs ls (by omega) (by omega)
 rw [hr, hy] at pv
 refine AE (md := mdT) (ms := [false, false]) Uu (by simp) ?_
 rw [VA]
 simp only [Int.toNat_natCast]
 simp [NY]
 refine ⟨by omega, ?_⟩
 refine AF (fun m E H => ∃ (n : Nat) (o : List UInt8), n = m ∧ n ≤ T ∧ o ++ Eo 47 (Hz (sgW cs ls) W n) = Eo 47 (Hz (sgW cs ls) W T) ∧ E = ltE o ls ((n : Int) - 1) ∧ H = [some (.box [.v (.int .i64 W), .v (.int .i64 T), .sl 1 1 (AC cs)])]) T ⟨T, [], by simp⟩ ?_
 rintro J hJ m E H ⟨n, o, rfl, hn, ho, rfl, rfl⟩
 cases n with
 | zero =>
   have ho' : o = Eo 47 (Hz (sgW cs ls) W T) := by simpa [Hz, Eo] using ho
   subst ho'
   simp [F0]
 | succ n =>
   have lo : o.length ≤ 42 := by have := congrArg List.length ho; rw [List.length_append] at this; omega
   have e1 : ((n + 1 : Nat) : Int) - 1 = (n : Int) := by omega
   rw [e1]
   have body := fun Qc hend => oJ W T cs ls o n (by omega) (by omega) (by omega) hl' hll hw (by omega) Qc hend
   simp [F0]
   refine AA pv ?_
   simp
   refine body _ ?_
   intro E g1 g2 g5 g6
   have lr : (o ++ Nl (sgW cs ls) W n).length ≤ 48 := by simp; omega
   cases n with
   | zero =>
     have nx := hJ 0 (ltE (o ++ Nl (sgW cs ls) W 0) ls (-1)) _ ⟨0, _, rfl, by omega, by rw [← ho]; simp [Hz, Eo], rfl, rfl⟩
     simp [g1, g2, g5, g6]
     exact ⟨_, by omega, nx⟩
   | succ n =>
     have nx := hJ (n + 1) (ltE (o ++ Nl (sgW cs ls) W (n + 1) ++ [47]) ls (n : Int)) _ ⟨n + 1, o ++ Nl (sgW cs ls) W (n + 1) ++ [47], rfl, by omega, by rw [← ho, WA W (sgW cs ls) (by omega : 0 < n + 1)]; simp, by rw [show ((n + 1 : Nat) : Int) - 1 = (n : Int) by omega], rfl⟩
     have hpos : (0 : Int) < (n : Int) + 1 := by omega
     generalize o ++ Nl (sgW cs ls) W (n + 1) = r at *
     simp [g1, g2, g5, g6, hpos]
     exact ⟨by omega, by omega, _, by omega, nx⟩
theorem Ux (W T : Int) (cs : List Bool) (ls : List Int) (hr : A0 W T cs = true) (hy : AO W T cs ls = true) :
  SoundAt Tryz.prog I1 [.agg [.v (.int .i64 W), .v (.int .i64 T), .sl 1 1 (AC cs)], .sl 1 1 (AB ls)] (.v (tx (VA W T cs ls))) [.bot, .bot] := by
 have hr' := hr
 simp only [A0, decide_eq_true_eq] at hr'
 obtain ⟨w, rfl⟩ : ∃ w : Nat, W = w := ⟨W.toNat, by omega⟩
 obtain ⟨t, rfl⟩ : ∃ t : Nat, T = t := ⟨T.toNat, by omega⟩
 exact Sy w t cs ls hr hy
theorem bg (W T : Int) (cs : List Bool) (ls : List Int) (k : Int) (h0 : 0 ≤ k) (h1 : k < ls.length) (hl : ls.length = cs.length) (hw : YM ls) :
  SoundAt Tryz.prog K3 [.v (.int .i64 k), .vp 1 [.v (.int .i64 W), .v (.int .i64 T), .sl 1 1 (AC cs)] 0, .vp 1 [.sl 1 1 (AB ls)] 0] (.v (.int .u8 (toI (sgW cs ls k.toNat)))) [.bot, .bot, .bot] := by
 refine AE (md := mdT) (ms := [false, false, false]) Rz (by simp) ?_
 obtain ⟨w0, w1⟩ := hw k h0 h1
 have hk : k < (cs.length : Int) := by omega
 have ek : ((k.toNat : Nat) : Int) = k := by omega
 unfold sgW
 rw [ek]
 cases hb : atb cs k with
 | false => simp [Gk, h0, h1, hk, hb, toI]
 | true =>
   have hc5 : ati ls k = 0 ∨ ati ls k = 1 ∨ ati ls k = 2 ∨ ati ls k = 3 ∨ ati ls k = 4 := by omega
   rcases hc5 with h5 | h5 | h5 | h5 | h5 <;> simp [Gk, h0, h1, hk, hb, h5, nH, toI, Yv]
abbrev rlF (W T : Int) (cs : List Bool) (ls : List Int) : AV := .fn 181 [.vp 1 [.v (.int .i64 W), .v (.int .i64 T), .sl 1 1 (AC cs)] 0, .vp 1 [.sl 1 1 (AB ls)] 0]
abbrev rlE (W T : Int) (cs : List Bool) (ls : List Int) (k : Nat) (y : Int) : ES := [(1, rlF W T cs ls), (2, .lp 0 0 0 0), (5, .ls 1 1 0 k), (6, .v (.int .i64 y))]
abbrev oK (W T : Nat) (cs : List Bool) (ls : List Int) (k : Nat) (y x : Int) : ES := [(1, rlF W T cs ls), (2, .lp 0 0 0 0), (5, .ls 1 1 0 k), (6, .v (.int .i64 y)), (7, .ls 1 2 0 W), (20, .v (.int .i64 W)), (21, .v (.int .i64 x))]
set_option maxHeartbeats 2000000 in
theorem oL (W T : Nat) (cs : List Bool) (ls : List Int) (rs : List (List UInt8)) (y : Nat) (hW : W ≤ 6) (hT : T ≤ 6) (hy : y < T) (hl : cs.length = T * W) (hll : ls.length = cs.length) (hw : YM ls) (Qc : AExit → ES → AH → Prop)
  (hend : ∀ E, get E 1 = rlF W T cs ls → get E 2 = .lp 0 0 0 0 → get E 5 = .ls 1 1 0 rs.length → get E 6 = .v (.int .i64 y) → get E 7 = .ls 1 2 0 W →
   Qc (.exit 2) E [some (.box [.v (.int .i64 W), .v (.int .i64 T), .sl 1 1 (AC cs)]), some (.arr 1 (txs rs)), some (.arr 1 (u8s ((Nl (sgW cs ls) W y).map toI)))]) :
  EO [(5, 1), (7, 1)] [1, 2, 5, 6, 7, 20, 21] (awp Tryz.prog mdT AY) Qc (oK W T cs ls rs.length y 0) [some (.box [.v (.int .i64 W), .v (.int .i64 T), .sl 1 1 (AC cs)]), some (.arr 1 (txs rs)), some (.arr 1 (List.replicate W (.v (.int .u8 0))))] := by
 rw [eC]
 refine AF (fun m E H => ∃ x : Nat, m = W - x ∧ x ≤ W ∧ E = oK W T cs ls rs.length y x ∧ H = [some (.box [.v (.int .i64 W), .v (.int .i64 T), .sl 1 1 (AC cs)]), some (.arr 1 (txs rs)), some (.arr 1 (u8s (part 0 toI W 0 x (Nl (sgW cs ls) W y) [])))]) W ⟨0, by simp [Yn, full]⟩ ?_
 rintro J hJ m E H ⟨x, rfl, hx, rfl, rfl⟩
 by_cases h : x < W
 ·have h' : (x : Int) < (W : Int) := by omega
  have hxr : x < (Nl (sgW cs ls) W y).length := by simp [h]
  have hc := Wn (T := T) hy h
  have hp : T * W ≤ 6 * 6 := Nat.mul_le_mul hT hW
  have e1 : (y : Int) * (W : Int) = ((y * W : Nat) : Int) := by simp
  have q0 : (0 : Int) ≤ (y : Int) * (W : Int) := by rw [e1]; omega
  have q1 : (y : Int) * (W : Int) ≤ 36 := by rw [e1]; omega
  have q2 : ((y : Int) * (W : Int) + (x : Int)) < (ls.length : Int) := by rw [e1]; omega
  have e2 : ((y : Int) * (W : Int) + (x : Int)) = ((y * W + x : Nat) : Int) := by rw [Int.natCast_add, e1]
  have sg := bg W T cs ls ((y : Int) * (W : Int) + (x : Int)) (by omega) q2 hll hw
  have es : sgW cs ls ((y : Int) * (W : Int) + (x : Int)).toNat = (Nl (sgW cs ls) W y)[x] := by
   rw [e2]; simp only [Nl, List.getElem_map, List.getElem_range, Int.toNat_natCast]
  rw [es] at sg
  have st := aZ (0 : Int) toI W 0 x (Nl (sgW cs ls) W y) [] (by simp) hxr
  have l1 := Us (0 : Int) toI W 0 x (Nl (sgW cs ls) W y) [] (by simp) hx
  simp only [Nat.zero_mul, Nat.zero_add, List.length_nil, Nat.add_zero] at st l1
  have nx := hJ (W - (x + 1)) (oK W T cs ls rs.length y ((x : Int) + 1)) _ ⟨x + 1, rfl, h, by simp, rfl⟩
  rw [← st] at nx
  generalize part 0 toI W 0 x (Nl (sgW cs ls) W y) [] = X at *
  generalize toI (Nl (sgW cs ls) W y)[x] = z at *
  have hX : x < X.length := by omega
  have qf : cL Tryz.prog 181 = true := by kernel_rfl
  simp [AY, h', hX, qf, h]
  refine ⟨by omega, by omega, ?_⟩
  refine AA sg ?_
  simp [d9, hX, h]
  exact ⟨by omega, _, by omega, nx⟩
 ·have : x = W := by omega
  subst this
  rw [aY _ _ _ _ _ _ (by simp)]
  simp [AY, full]
  apply hend <;> rfl
set_option maxHeartbeats 2000000 in
theorem Sz (W T : Nat) (cs : List Bool) (ls : List Int) (hr : A0 W T cs = true) (hll : ls.length = cs.length) (hw : YM ls) :
  SoundAt Tryz.prog Df [.agg [.v (.int .i64 W), .v (.int .i64 T), .sl 1 1 (AC cs)], rlF W T cs ls] (.v (tx (Eo 47 (Hz (sgW cs ls) W T)))) [.bot, .bot] := by
 refine AE (md := mdT) (ms := [false, false]) GM (by simp) ?_
 have hr' := hr
 simp only [A0, decide_eq_true_eq] at hr'
 obtain ⟨w1, w2, t1, t2, hl, _⟩ := hr'
 have hW6 : W ≤ 6 := by omega
 have hT6 : T ≤ 6 := by omega
 have hl' : cs.length = T * W := by
  have : (cs.length : Int) = ((T * W : Nat) : Int) := by rw [hl, Int.natCast_mul, Int.mul_comm]
  exact Int.ofNat.inj this
 have tot := Tm (sgW cs ls) T (W := W)
 have hp : T * (W + 1) ≤ 6 * 7 := Nat.mul_le_mul hT6 (by omega)
 have jn := Oq (Hz (sgW cs ls) W T) 47 (by simp; omega) (by omega)
 simp [Dg]
 refine ⟨by omega, ?_⟩
 refine AF (fun m E H => ∃ (n : Nat) (rs : List (List UInt8)), n = m ∧ n ≤ T ∧ rs ++ Hz (sgW cs ls) W n = Hz (sgW cs ls) W T ∧ E = rlE W T cs ls rs.length ((n : Int) - 1) ∧
  H = [some (.box [.v (.int .i64 W), .v (.int .i64 T), .sl 1 1 (AC cs)]), some (.arr 1 (txs rs))]) T ⟨T, [], by simp⟩ ?_
 rintro J hJ m E H ⟨n, rs, rfl, hn, ho, rfl, rfl⟩
 cases n with
 | zero =>
   have ho' : rs = Hz (sgW cs ls) W T := by simpa [Hz] using ho
   subst ho'
   rw [JE]
   have tk : List.take T (txs (Hz (sgW cs ls) W T)) = txs (Hz (sgW cs ls) W T) := List.take_of_length_le (by simp)
   simp [Az]
   refine AA jn ?_
   simp [tk]
 | succ n =>
   have la : rs.length ≤ 6 := by have := congrArg List.length ho; rw [List.length_append, JE, JE] at this; omega
   have e1 : ((n + 1 : Nat) : Int) - 1 = (n : Int) := by omega
   have w0 : (0 : Int) ≤ (W : Int) := by omega
   rw [e1]
   have nx := hJ n (rlE W T cs ls (rs ++ [Nl (sgW cs ls) W n]).length ((n : Int) - 1)) _ ⟨n, rs ++ [Nl (sgW cs ls) W n], rfl, by omega, by rw [← ho, Hz]; simp, rfl, rfl⟩
   rw [Nj, ZC, List.length_append, List.length_singleton] at nx
   have body := oL W T cs ls rs n hW6 hT6 (by omega) hl' hll hw
   simp [Az, w0]
   refine ⟨by omega, ?_⟩
   refine body _ ?_
   intro E g1 g2 g5 g6 g7
   have tk : List.take W (u8s ((Nl (sgW cs ls) W n).map toI)) = u8s ((Nl (sgW cs ls) W n).map toI) := List.take_of_length_le (by simp)
   have hst := iB (Nl (sgW cs ls) W n)
   have hrw : W ≤ (Nl (sgW cs ls) W n).length := by simp
   generalize Nl (sgW cs ls) W n = row at *
   rw [List.map_map] at hst
   simp [g1, g2, g5, g6, g7, tk, hst, hrw, eu]
   exact ⟨by omega, by omega, _, by omega, nx⟩
theorem Uy (W T : Int) (cs : List Bool) (ls : List Int) (hr : A0 W T cs = true) (hy : AO W T cs ls = true) :
  SoundAt Tryz.prog NZ [.agg [.v (.int .i64 W), .v (.int .i64 T), .sl 1 1 (AC cs)], .sl 1 1 (AB ls)] (.v (tx (VA W T cs ls))) [.bot, .bot] := by
 have hr' := hr
 simp only [A0, decide_eq_true_eq] at hr'
 obtain ⟨w, rfl⟩ : ∃ w : Nat, W = w := ⟨W.toNat, by omega⟩
 obtain ⟨t, rfl⟩ : ∃ t : Nat, T = t := ⟨T.toNat, by omega⟩
 have hll : ls.length = cs.length := by simp only [AO, Bool.and_eq_true, decide_eq_true_eq] at hy; exact hy.1
 have hp2 : (w : Int) * t ≤ 36 := by
  have : w * t ≤ 6 * 6 := Nat.mul_le_mul (by omega) (by omega)
  have e : (w : Int) * t = ((w * t : Nat) : Int) := by simp
  omega
 have pv := LM w t cs ls (by omega) (by omega)
 rw [hr, hy] at pv
 have rt := Sz w t cs ls hr hll (YN hy)
 refine AE (md := mdT) (ms := [false, false]) Uv (by simp) ?_
 rw [VA]
 simp only [Int.toNat_natCast]
 simp [Na]
 refine AA pv ?_
 simp
 refine AA rt ?_
 simp
def eh (b : Bool) : List UInt8 := if b then [121, 101, 115] else [110, 111]
def okT (b : Bool) : List UInt8 := if b then [111, 107] else [110, 111]
def Yp : List UInt8 := [110, 111, 110, 101]
def mO (W T : Int) (cs : List Bool) (ds ls : List Int) (ps : List (List Int)) (s : List UInt8) : List UInt8 :=
 if s = [115, 104, 111, 119] then VA W T cs ls else
 if s = [100, 105, 103, 105, 116, 115] then Tl W T cs ds else
 if s = [108, 101, 102, 116] then RO (Bg cs - 2 * JA ls) else
 if s = [112, 97, 115, 116] then RO ps.length else
 if s = [115, 111, 108, 118, 101, 100] then eh (J7 cs ls) else
 if s = [100, 101, 97, 100] then eh (SX W T cs ds ls) else
 if s = [104, 105, 110, 116] then (if LJ W T cs ds ls < 0 then Yp else CA (0, LJ W T cs ds ls, Ny W T cs ds ls)) else
 [119, 104, 97, 116]
def bn (W T : Int) (cs : List Bool) (ds ls : List Int) : List fi := if bW W T cs ds (BO cs) = true then dn ls (Xj W T cs ds (BO cs)) else []
def C7 (W T : Int) (cs : List Bool) (ds ls : List Int) (ps : List (List Int)) (s : List UInt8) : List Int × List (List Int) × List UInt8 :=
 if Ci s = true then ((doI W T cs ds ls ps (Cj s).1 (Cj s).2.1 (Cj s).2.2).2.1, (doI W T cs ds ls ps (Cj s).1 (Cj s).2.1 (Cj s).2.2).2.2, okT (doI W T cs ds ls ps (Cj s).1 (Cj s).2.1 (Cj s).2.2).1) else
 if s = [101, 110, 100] then ((kh W T cs ds ls ps (bn W T cs ds ls)).1, (kh W T cs ds ls ps (bn W T cs ds ls)).2.1, if bn W T cs ds ls = [] then Yp else [111, 107]) else
 (ls, ps, mO W T cs ds ls ps s)
theorem Xb {W T : Int} {cs : List Bool} {ds ls : List Int} {ps : List (List Int)} (s : List UInt8) (h : Am W T cs ds ls ps = true) : Am W T cs ds (C7 W T cs ds ls ps s).1 (C7 W T cs ds ls ps s).2.1 = true := by
 unfold C7
 split
 ·exact fw _ _ _ h
 split
 ·exact g9 _ _ _ h
 ·exact h
theorem eE {s : List UInt8} (h : Ci s = true) : 0 ≤ (Cj s).2.1 ∧ (Cj s).2.1 ≤ 99 := by
 have := (Tj h).2
 simp only [Ed, Bool.and_eq_true, decide_eq_true_eq] at this
 exact this.1.2
@[simp] def mdl (f : Nat) : List Bool := if f = 65 ∨ f = Ad then [true, false] else []
theorem WL (b : Bool) : SoundAt Tryz.prog WJ [.v (.bool b)] (.v (tx (eh b))) [.bot] := by
 refine AE (md := mdl) (ms := [false]) bf (by simp) ?_
 cases b <;> simp [WK, eh]
theorem jw (W T : Int) (cs : List Bool) (ds ls : List Int) (ps : List (List Int)) (s : List UInt8) (h : Am W T cs ds ls ps = true) (hs : s.length < 2 ^ 30) (hr : Ci s = true) :
  SoundAt Tryz.prog Ad [OT W T cs ds ls ps, .v (tx s)] (.v (tx (C7 W T cs ds ls ps s).2.2)) [OT W T cs ds (C7 W T cs ds ls ps s).1 (C7 W T cs ds ls ps s).2.1, .bot] := by
 have rd := Ay s hs
 have dd := Om W T cs ds ls ps (Cj s).1 (Cj s).2.1 (Cj s).2.2 h (by have := eE hr; omega)
 refine AE (md := mdl) (ms := [true, false]) Ao (by simp) ?_
 rw [hr] at rd
 simp only [C7, hr, if_true]
 simp only [Ez, A8] at rd
 generalize Cj s = d at *
 generalize doI W T cs ds ls ps d.1 d.2.1 d.2.2 = r at *
 obtain ⟨b, l2, p2⟩ := r
 have htl : (AB l2).take l2.length = AB l2 := AD l2
 have hto : (oss p2).take p2.length = oss p2 := List.take_of_length_le (by simp [oss])
 simp [Aj]
 refine AA rd ?_
 simp
 refine AA dd ?_
 cases b <;> simp [okT, htl, hto]
theorem WM : Ci [101, 110, 100] = false := by decide
theorem Xc : Ci [115, 104, 111, 119] = false := by decide
theorem Q4 : Ci [100, 105, 103, 105, 116, 115] = false := by decide
theorem Xd : Ci [108, 101, 102, 116] = false := by decide
theorem Xe : Ci [112, 97, 115, 116] = false := by decide
theorem Q5 : Ci [115, 111, 108, 118, 101, 100] = false := by decide
theorem Xf : Ci [100, 101, 97, 100] = false := by decide
theorem Xg : Ci [104, 105, 110, 116] = false := by decide
theorem CG {s : List UInt8} (h : Ci s = false) : Cj s = (0, 0, 0) := by simp [Cj, h]
theorem Zk {W T : Int} {cs : List Bool} {ds ls : List Int} {ps : List (List Int)} (h : Am W T cs ds ls ps = true) : mL W T cs ds ls ps = bn W T cs ds ls := by
 obtain ⟨hf, _, _⟩ := Aa h
 obtain ⟨hr, _, _, _⟩ := AR hf
 have eb : Vo W T cs = BO cs := by simp [Vo, hr]
 unfold mL bn
 rw [h, eb]
 rfl
theorem aa {W T : Int} {cs : List Bool} {ds ls : List Int} {ps : List (List Int)} (h : Am W T cs ds ls ps = true) : 0 ≤ (Bg cs : Int) - 2 * JA ls := by
 obtain ⟨hf, _, _⟩ := Aa h
 obtain ⟨hr, _, hy, _⟩ := AR hf
 have := Zf hr hy
 omega
theorem gC (W T : Int) (cs : List Bool) (ds ls : List Int) (ps : List (List Int)) (h : Am W T cs ds ls ps = true) :
  SoundAt Tryz.prog Ad [OT W T cs ds ls ps, .v (tx [101, 110, 100])] (.v (tx (C7 W T cs ds ls ps [101, 110, 100]).2.2)) [OT W T cs ds (C7 W T cs ds ls ps [101, 110, 100]).1 (C7 W T cs ds ls ps [101, 110, 100]).2.1, .bot] := by
 have rd := Ay [101, 110, 100] (by decide)
 have ed := N1 W T cs ds ls ps h
 have ee : (if bW W T cs ds (BO cs) = true then dn ls (Xj W T cs ds (BO cs)) else []) = bn W T cs ds ls := rfl
 rw [ee] at ed
 rw [WM, CG WM] at rd
 simp only [Ez, A8] at rd
 simp only [C7, WM, if_true, Bool.false_eq_true, if_false]
 refine AE (md := mdl) (ms := [true, false]) Ao (by simp) ?_
 have hsp : ∀ d ∈ bn W T cs ds ls, d.2.1 ≤ 9223372036854775807 := by
  intro d hd
  unfold bn at hd
  split at hd
  ·rename_i hsb
   have := dv hd
   obtain ⟨hf, _, _⟩ := Aa h
   obtain ⟨hr, _, _, _⟩ := AR hf
   have l36 := AZ hr
   have := (Ru h hsb).2.1
   omega
  ·simp at hd
 have hx72 : (bn W T cs ds ls).length ≤ 72 := by rw [← Zk h]; exact Ug W T cs ds ls ps
 generalize bn W T cs ds ls = xs at *
 have htl : (AB ls).take ls.length = AB ls := AD ls
 have hto : (oss ps).take ps.length = oss ps := List.take_of_length_le (by simp [oss])
 simp [Aj]
 refine AA rd ?_
 simp
 refine AA ed ?_
 simp
 refine AF (fun m E H => ∃ (i : Nat) (l : List Int) (p : List (List Int)) (n : Nat), m = xs.length - i ∧ i ≤ xs.length ∧ Ki (mK W T cs ds) ls ps (xs.take i) = (l, p, n) ∧ Am W T cs ds l p = true ∧
  E = [(0, .lp 0 0 0 0), (7, .ls 3 1 0 xs.length), (26, .ls 3 1 0 xs.length), (27, .v (.int .i64 xs.length)), (28, .v (.int .i64 i)), (126, .lp 0 0 0 0)] ∧
  H = [some (.box [.v (.int .i64 W), .v (.int .i64 T), .ls 1 2 0 cs.length, .ls 1 3 0 ds.length, .ls 1 4 0 l.length, .ls 1 5 0 p.length]), some (.arr 3 (dsA xs)),
    some (.arr 1 (AC cs)), some (.arr 1 (AB ds)), some (.arr 1 (AB l)), some (.arr 1 (oss p))]) xs.length ⟨0, ls, ps, 0, by simp, by omega, by simp [Ki], h, by simp, by simp⟩ ?_
 rintro J hJ m E H ⟨i, l, p, n, rfl, hi, hrr, hb, rfl, rfl⟩
 have htl : (AB l).take l.length = AB l := AD l
 have hto : (oss p).take p.length = oss p := List.take_of_length_le (by simp [oss])
 by_cases hlt : i < xs.length
 ·have hd := Om W T cs ds l p xs[i].1 xs[i].2.1 xs[i].2.2 hb (hsp _ (List.getElem_mem hlt))
  have hb2 := fw xs[i].1 xs[i].2.1 xs[i].2.2 hb
  have hr2 : Ki (mK W T cs ds) ls ps (xs.take (i + 1)) = ((doI W T cs ds l p xs[i].1 xs[i].2.1 xs[i].2.2).2.1, (doI W T cs ds l p xs[i].1 xs[i].2.1 xs[i].2.2).2.2, n + if (doI W T cs ds l p xs[i].1 xs[i].2.1 xs[i].2.2).1 then 1 else 0) := by
   rw [List.take_succ_eq_append_getElem hlt, O8, hrr]
  generalize doI W T cs ds l p xs[i].1 xs[i].2.1 xs[i].2.2 = r at *
  obtain ⟨b, l2, p2⟩ := r
  have htl2 : (AB l2).take l2.length = AB l2 := AD l2
  have hto2 : (oss p2).take p2.length = oss p2 := List.take_of_length_le (by simp [oss])
  simp only at hd hb2 hr2
  have hg := aL hlt
  simp [DR, hlt, hg, A8]
  refine AA hd ?_
  simp
  exact ⟨by omega, _, by omega, hJ _ _ _ ⟨i + 1, l2, p2, _, rfl, hlt, hr2, hb2, by simp, by simp⟩⟩
 ·have : i = xs.length := by omega
  subst this
  rw [List.take_length] at hrr
  have e : kh W T cs ds ls ps xs = (l, p, n) := hrr
  rw [e]
  by_cases hx : xs = []
  ·simp [DR, hx, htl, hto, Yp]
  ·have hx0 : ¬ xs.length = 0 := fun e => hx (List.eq_nil_of_length_eq_zero e)
   simp [DR, hx, hx0, htl, hto]
theorem eF (W T : Int) (cs : List Bool) (ds ls : List Int) (ps : List (List Int)) (h : Am W T cs ds ls ps = true) :
  SoundAt Tryz.prog Ad [OT W T cs ds ls ps, .v (tx [115, 104, 111, 119])] (.v (tx (VA W T cs ls))) [OT W T cs ds ls ps, .bot] := by
 obtain ⟨hf, h20, hpf⟩ := Aa h
 obtain ⟨hr, hdg, hy, ho⟩ := AR hf
 have rd := Ay [115, 104, 111, 119] (by decide)
 have lt := Uy W T cs ls hr hy
 rw [Xc, CG Xc] at rd
 simp only [Ez, A8] at rd
 generalize VA W T cs ls = t at *
 have htl : (AB ls).take ls.length = AB ls := AD ls
 have hto : (oss ps).take ps.length = oss ps := List.take_of_length_le (by simp [oss])
 refine AE (md := mdl) (ms := [true, false]) Ao (by simp) ?_
 simp [Aj]
 refine AA rd ?_
 simp
 (repeat' first | omega | apply And.intro) <;>
 ·refine AA lt ?_
  simp [htl, hto]
theorem Zl (W T : Int) (cs : List Bool) (ds ls : List Int) (ps : List (List Int)) (h : Am W T cs ds ls ps = true) :
  SoundAt Tryz.prog Ad [OT W T cs ds ls ps, .v (tx [100, 105, 103, 105, 116, 115])] (.v (tx (Tl W T cs ds))) [OT W T cs ds ls ps, .bot] := by
 obtain ⟨hf, h20, hpf⟩ := Aa h
 obtain ⟨hr, hdg, hy, ho⟩ := AR hf
 obtain ⟨l36, ld, ll⟩ := Ct hf
 have rd := Ay [100, 105, 103, 105, 116, 115] (by decide)
 obtain ⟨w, rfl⟩ : ∃ w : Nat, W = w := ⟨W.toNat, by have := hr; simp only [A0, decide_eq_true_eq] at this; omega⟩
 obtain ⟨t, rfl⟩ : ∃ t : Nat, T = t := ⟨T.toNat, by have := hr; simp only [A0, decide_eq_true_eq] at this; omega⟩
 have pt := Ry w t cs ds (by omega) (by omega)
 rw [Q4, CG Q4] at rd
 simp only [Ez, A8] at rd
 have htl : (AB ls).take ls.length = AB ls := AD ls
 have hto : (oss ps).take ps.length = oss ps := List.take_of_length_le (by simp [oss])
 generalize Tl w t cs ds = x at *
 refine AE (md := mdl) (ms := [true, false]) Ao (by simp) ?_
 simp [Aj]
 refine AA rd ?_
 simp
 (repeat' first | omega | apply And.intro) <;>
 ·refine AA pt ?_
  simp [htl, hto]
theorem eG (W T : Int) (cs : List Bool) (ds ls : List Int) (ps : List (List Int)) (h : Am W T cs ds ls ps = true) :
  SoundAt Tryz.prog Ad [OT W T cs ds ls ps, .v (tx [108, 101, 102, 116])] (.v (tx (RO (Bg cs - 2 * JA ls)))) [OT W T cs ds ls ps, .bot] := by
 obtain ⟨hf, h20, hpf⟩ := Aa h
 obtain ⟨hr, hdg, hy, ho⟩ := AR hf
 obtain ⟨l36, ld, ll⟩ := Ct hf
 have rd := Ay [108, 101, 102, 116] (by decide)
 have lf := Sh W T cs ds ls ps (by omega) (by omega)
 have h0 := aa h
 have h1 := Hx cs
 have it := KJ ((Bg cs : Int) - 2 * JA ls) h0 (by omega)
 rw [Xd, CG Xd] at rd
 simp only [Ez, A8] at rd
 have htl : (AB ls).take ls.length = AB ls := AD ls
 have hto : (oss ps).take ps.length = oss ps := List.take_of_length_le (by simp [oss])
 refine AE (md := mdl) (ms := [true, false]) Ao (by simp) ?_
 simp [Aj]
 refine AA rd ?_
 simp
 refine AA lf ?_
 simp
 refine AA it ?_
 simp [htl, hto]
theorem eI (W T : Int) (cs : List Bool) (ds ls : List Int) (ps : List (List Int)) (h : Am W T cs ds ls ps = true) :
  SoundAt Tryz.prog Ad [OT W T cs ds ls ps, .v (tx [112, 97, 115, 116])] (.v (tx (RO (ps.length : Int)))) [OT W T cs ds ls ps, .bot] := by
 obtain ⟨hf, h20, hpf⟩ := Aa h
 obtain ⟨hr, hdg, hy, ho⟩ := AR hf
 obtain ⟨l36, ld, ll⟩ := Ct hf
 have rd := Ay [112, 97, 115, 116] (by decide)
 have it := KJ (ps.length : Int) (by omega) (by omega)
 rw [Xe, CG Xe] at rd
 simp only [Ez, A8] at rd
 have htl : (AB ls).take ls.length = AB ls := AD ls
 have hto : (oss ps).take ps.length = oss ps := List.take_of_length_le (by simp [oss])
 refine AE (md := mdl) (ms := [true, false]) Ao (by simp) ?_
 simp [Aj]
 refine AA rd ?_
 simp
 refine AA it ?_
 simp [htl, hto]
theorem Zm (W T : Int) (cs : List Bool) (ds ls : List Int) (ps : List (List Int)) (h : Am W T cs ds ls ps = true) :
  SoundAt Tryz.prog Ad [OT W T cs ds ls ps, .v (tx [115, 111, 108, 118, 101, 100])] (.v (tx (eh (J7 cs ls)))) [OT W T cs ds ls ps, .bot] := by
 obtain ⟨hf, h20, hpf⟩ := Aa h
 obtain ⟨hr, hdg, hy, ho⟩ := AR hf
 obtain ⟨l36, ld, ll⟩ := Ct hf
 have rd := Ay [115, 111, 108, 118, 101, 100] (by decide)
 have fu := QB W T cs ls (by omega) ll
 have ye := WL (J7 cs ls)
 rw [Q5, CG Q5] at rd
 simp only [Ez, A8] at rd
 have htl : (AB ls).take ls.length = AB ls := AD ls
 have hto : (oss ps).take ps.length = oss ps := List.take_of_length_le (by simp [oss])
 refine AE (md := mdl) (ms := [true, false]) Ao (by simp) ?_
 simp [Aj]
 refine AA rd ?_
 simp
 (repeat' first | omega | apply And.intro) <;>
 ·refine AA fu ?_
  simp
  refine AA ye ?_
  simp [htl, hto]
theorem eJ (W T : Int) (cs : List Bool) (ds ls : List Int) (ps : List (List Int)) (h : Am W T cs ds ls ps = true) :
  SoundAt Tryz.prog Ad [OT W T cs ds ls ps, .v (tx [100, 101, 97, 100])] (.v (tx (eh (SX W T cs ds ls)))) [OT W T cs ds ls ps, .bot] := by
 obtain ⟨hf, h20, hpf⟩ := Aa h
 obtain ⟨hr, hdg, hy, ho⟩ := AR hf
 obtain ⟨l36, ld, ll⟩ := Ct hf
 have rd := Ay [100, 101, 97, 100] (by decide)
 have fu := ZS W T cs ds ls (by omega) (by omega) (by omega)
 have ye := WL (SX W T cs ds ls)
 rw [Xf, CG Xf] at rd
 simp only [Ez, A8] at rd
 have htl : (AB ls).take ls.length = AB ls := AD ls
 have hto : (oss ps).take ps.length = oss ps := List.take_of_length_le (by simp [oss])
 refine AE (md := mdl) (ms := [true, false]) Ao (by simp) ?_
 simp [Aj]
 refine AA rd ?_
 simp
 (repeat' first | omega | apply And.intro) <;>
 ·refine AA fu ?_
  simp
  refine AA ye ?_
  simp [htl, hto]
theorem eK (W T : Int) (cs : List Bool) (ds ls : List Int) (ps : List (List Int)) (h : Am W T cs ds ls ps = true) :
  SoundAt Tryz.prog Ad [OT W T cs ds ls ps, .v (tx [104, 105, 110, 116])] (.v (tx (if LJ W T cs ds ls < 0 then Yp else CA (0, LJ W T cs ds ls, Ny W T cs ds ls)))) [OT W T cs ds ls ps, .bot] := by
 obtain ⟨hf, h20, hpf⟩ := Aa h
 obtain ⟨hr, hdg, hy, ho⟩ := AR hf
 obtain ⟨l36, ld, ll⟩ := Ct hf
 have rd := Ay [104, 105, 110, 116] (by decide)
 have hi := XR W T cs ds ls (by omega) (by omega) (by omega)
 have dt := NT (0, LJ W T cs ds ls, Ny W T cs ds ls)
 simp only [A8] at dt
 rw [Xg, CG Xg] at rd
 simp only [Ez, A8] at rd
 have htl : (AB ls).take ls.length = AB ls := AD ls
 have hto : (oss ps).take ps.length = oss ps := List.take_of_length_le (by simp [oss])
 generalize LJ W T cs ds ls = c at *
 generalize Ny W T cs ds ls = x at *
 refine AE (md := mdl) (ms := [true, false]) Ao (by simp) ?_
 simp [Aj]
 refine AA rd ?_
 simp
 (repeat' first | omega | apply And.intro) <;>
 ·refine AA hi ?_
  by_cases hc : c < 0
  ·simp [hc, htl, hto, Yp]
  ·simp [hc]
   refine AA dt ?_
   simp [htl, hto]
theorem L4 (W T : Int) (cs : List Bool) (ds ls : List Int) (ps : List (List Int)) (s : List UInt8) (h : Am W T cs ds ls ps = true) (hs : s.length < 2 ^ 30) :
  SoundAt Tryz.prog Ad [OT W T cs ds ls ps, .v (tx s)] (.v (tx (C7 W T cs ds ls ps s).2.2)) [OT W T cs ds (C7 W T cs ds ls ps s).1 (C7 W T cs ds ls ps s).2.1, .bot] := by
 cases hr : Ci s with
 | true => exact jw W T cs ds ls ps s h hs hr
 | false =>
 by_cases h0 : s = [101, 110, 100]
 ·subst h0; exact gC W T cs ds ls ps h
 have e : C7 W T cs ds ls ps s = (ls, ps, mO W T cs ds ls ps s) := by simp [C7, hr, h0]
 rw [e]
 simp only [mO]
 by_cases h1 : s = [115, 104, 111, 119]
 ·subst h1; exact eF W T cs ds ls ps h
 rw [if_neg h1]
 by_cases h2 : s = [100, 105, 103, 105, 116, 115]
 ·subst h2; exact Zl W T cs ds ls ps h
 rw [if_neg h2]
 by_cases h3 : s = [108, 101, 102, 116]
 ·subst h3; exact eG W T cs ds ls ps h
 rw [if_neg h3]
 by_cases h4 : s = [112, 97, 115, 116]
 ·subst h4; exact eI W T cs ds ls ps h
 rw [if_neg h4]
 by_cases h5 : s = [115, 111, 108, 118, 101, 100]
 ·subst h5; exact Zm W T cs ds ls ps h
 rw [if_neg h5]
 by_cases h6 : s = [100, 101, 97, 100]
 ·subst h6; exact eJ W T cs ds ls ps h
 rw [if_neg h6]
 by_cases h7 : s = [104, 105, 110, 116]
 ·subst h7; exact eK W T cs ds ls ps h
 rw [if_neg h7]
 have rd := Ay s hs
 rw [hr, CG hr] at rd
 simp only [Ez, A8] at rd
 have htl : (AB ls).take ls.length = AB ls := AD ls
 have hto : (oss ps).take ps.length = oss ps := List.take_of_length_le (by simp [oss])
 refine AE (md := mdl) (ms := [true, false]) Ao (by simp) ?_
 simp [Aj]
 refine AA rd ?_
 simp [h0, h1, h2, h3, h4, h5, h6, h7, htl, hto]
theorem KK (b : Bool) (s : List UInt8) : SoundAt Tryz.prog Ot [.v (.bool b), .v (tx s)] (.v (tx (if b then s else [110, 111]))) [.bot, .bot] := by
 refine AE (md := mdl) (ms := [false, false]) Vr (by simp) ?_
 cases b <;> simp [Ou]
theorem An {W T : Int} {cs : List Bool} {ds ls : List Int} {ps : List (List Int)} (h : Am W T cs ds ls ps = true) : SoundAt Tryz.prog Gq [bkA W T cs ds ls ps] (bkO W T cs ds ls ps) [.bot] := by
 obtain ⟨hf, h20, hpf⟩ := Aa h
 obtain ⟨hr, hdg, hy, ho⟩ := AR hf
 obtain ⟨l36, ld, ll⟩ := Ct hf
 have hnew := Ol W T cs ds (by omega) (by omega)
 have enew : jl W T cs ds = bkO W T cs ds (BO cs) [] := by simp [jl, hr, hdg]
 rw [enew] at hnew
 exact Og Oh W T cs ds ls (BO cs) ps (by omega) (by omega) (by omega) (by omega) (fun p hp => by have := Ct (hpf p hp); omega) (by simp [BO]; omega) hnew
def WN (mk : List Int → List (List Int) → AV) (no : AV) (W T : Int) (cs : List Bool) (ds ls : List Int) (ps : List (List Int)) (s : List UInt8) : AV :=
 if Am W T cs ds ls ps = true then .tup [mk (C7 W T cs ds ls ps s).1 (C7 W T cs ds ls ps s).2.1, .v (tx (C7 W T cs ds ls ps s).2.2)] else .tup [no, .v (tx [])]
theorem Uz (W T : Int) (cs : List Bool) (ds ls : List Int) (ps : List (List Int)) (s : List UInt8) (hc : cs.length ≤ 2 ^ 30) (hd : ds.length ≤ 2 ^ 30) (hl : ls.length ≤ 2 ^ 30) (hb : ps.length ≤ 2 ^ 30) (hp : ∀ p ∈ ps, p.length ≤ 2 ^ 30) (hs : s.length < 2 ^ 30) :
  SoundAt Tryz.prog I5 [bkA W T cs ds ls ps, .v (tx s)] (WN (bkO W T cs ds) (bkO 0 0 [] [] [] []) W T cs ds ls ps s) [.bot, .bot] := by
 have hv := Ll W T cs ds ls ps (by omega) (by omega) (by omega) (by omega) (fun p h => by have := hp p h; omega)
 refine AE (md := mdl) (ms := [false, false]) Uw (by simp) ?_
 unfold WN
 cases h : Am W T cs ds ls ps with
 | false =>
   rw [h] at hv
   simp [I6]
   refine AA hv ?_
   simp
 | true =>
   rw [h] at hv
   obtain ⟨hf, h20, hpf⟩ := Aa h
   obtain ⟨l36, ld, ll⟩ := Ct hf
   have hcopy := Jv W T cs ds ls ps (by omega) (by omega) (by omega) (by omega) (fun p hp => by have := Ct (hpf p hp); omega)
   have hln := L4 W T cs ds ls ps s h hs
   generalize C7 W T cs ds ls ps s = r at *
   obtain ⟨l2, p2, t⟩ := r
   have htl : (AB l2).take l2.length = AB l2 := AD l2
   have hto : (oss p2).take p2.length = oss p2 := List.take_of_length_le (by simp [oss])
   simp [I6]
   refine AA hv ?_
   simp
   refine AA hcopy ?_
   simp
   refine AA hln ?_
   simp [htl, hto]
theorem F1 {W T : Int} {cs : List Bool} {ds ls : List Int} {ps : List (List Int)} (h : Am W T cs ds ls ps = true) : cs.length ≤ 36 ∧ ds.length ≤ 36 ∧ ls.length ≤ 36 ∧ ps.length ≤ 20 ∧ (∀ p ∈ ps, p.length ≤ 40) ∧
  SoundAt Tryz.prog HG [bkA W T cs ds ls ps] (.v (.bool true)) [.bot] := by
 obtain ⟨hf, h20, hpf⟩ := Aa h
 obtain ⟨l36, ld, ll⟩ := Ct hf
 have hpl : ∀ p ∈ ps, p.length ≤ 40 := fun p hp => by have := Ct (hpf p hp); omega
 have val := Bm W T cs ds ls ps (by omega) (by omega) (by omega) (by omega) (fun p hp => by have := hpl p hp; omega)
 rw [h] at val
 exact ⟨l36, by omega, by omega, h20, hpl, val⟩
theorem oi (W T : Int) (cs : List Bool) (ds ls : List Int) (ps : List (List Int)) (s : List UInt8) (h : Am W T cs ds ls ps = true) (hs : s.length < 2 ^ 30) (hr : Ci s = true) :
  SoundAt Tryz.prog Ah [bkA W T cs ds ls ps, .v (tx s)] (.tup [bkO W T cs ds (C7 W T cs ds ls ps s).1 (C7 W T cs ds ls ps s).2.1, .v (tx (C7 W T cs ds ls ps s).2.2)]) [.bot, .bot] := by
 obtain ⟨hc, hd, hl, hb, hp, val⟩ := F1 h
 have rd := Ax s hs
 have cp := An h
 have dd := Qz W T cs ds ls ps (Cj s).1 (Cj s).2.1 (Cj s).2.2 (by omega) (by omega) (by omega) (by omega) hp
 rw [h] at dd
 simp only [if_true, Bool.true_and] at dd
 have wd := KK (doI W T cs ds ls ps (Cj s).1 (Cj s).2.1 (Cj s).2.2).1 [111, 107]
 refine AE (md := mdl) (ms := [false, false]) Al (by simp) ?_
 rw [hr] at rd
 simp only [C7, hr, if_true]
 simp only [Ez, A8] at rd
 generalize Cj s = d at *
 generalize doI W T cs ds ls ps d.1 d.2.1 d.2.2 = r at *
 obtain ⟨b, l2, p2⟩ := r
 have htl : (AB l2).take l2.length = AB l2 := AD l2
 have hto : (oss p2).take p2.length = oss p2 := List.take_of_length_le (by simp [oss])
 simp [Ai]
 refine AA val ?_
 simp
 refine AA rd ?_
 simp
 refine AA cp ?_
 simp
 refine AA dd ?_
 simp
 (repeat' first | omega | apply And.intro) <;>
 ·refine AA wd ?_
  cases b <;> simp [htl, hto, okT]
theorem mP (W T : Int) (cs : List Bool) (ds ls : List Int) (ps : List (List Int)) (h : Am W T cs ds ls ps = true) :
  SoundAt Tryz.prog Ah [bkA W T cs ds ls ps, .v (tx [115, 104, 111, 119])] (.tup [bkO W T cs ds ls ps, .v (tx (VA W T cs ls))]) [.bot, .bot] := by
 obtain ⟨hc, hd, hl, hb, hp, val⟩ := F1 h
 obtain ⟨hf, h20, hpf⟩ := Aa h
 obtain ⟨hr, hdg, hy, ho⟩ := AR hf
 have rd := Ax [115, 104, 111, 119] (by decide)
 have cp := An h
 have lt := Ux W T cs ls hr hy
 rw [Xc, CG Xc] at rd
 simp only [Ez, A8] at rd
 have htl : (AB ls).take ls.length = AB ls := AD ls
 have hto : (oss ps).take ps.length = oss ps := List.take_of_length_le (by simp [oss])
 generalize VA W T cs ls = x at *
 refine AE (md := mdl) (ms := [false, false]) Al (by simp) ?_
 simp [Ai]
 refine AA val ?_
 simp
 refine AA rd ?_
 simp
 refine AA cp ?_
 simp
 (repeat' first | omega | apply And.intro) <;>
 ·refine AA lt ?_
  simp [htl, hto]
theorem gD (W T : Int) (cs : List Bool) (ds ls : List Int) (ps : List (List Int)) (h : Am W T cs ds ls ps = true) :
  SoundAt Tryz.prog Ah [bkA W T cs ds ls ps, .v (tx [100, 105, 103, 105, 116, 115])] (.tup [bkO W T cs ds ls ps, .v (tx (Tl W T cs ds))]) [.bot, .bot] := by
 obtain ⟨hc, hd, hl, hb, hp, val⟩ := F1 h
 obtain ⟨hf, h20, hpf⟩ := Aa h
 obtain ⟨hr, hdg, hy, ho⟩ := AR hf
 have rd := Ax [100, 105, 103, 105, 116, 115] (by decide)
 have cp := An h
 obtain ⟨w, rfl⟩ : ∃ w : Nat, W = w := ⟨W.toNat, by have := hr; simp only [A0, decide_eq_true_eq] at this; omega⟩
 obtain ⟨t, rfl⟩ : ∃ t : Nat, T = t := ⟨T.toNat, by have := hr; simp only [A0, decide_eq_true_eq] at this; omega⟩
 have pt := Rx w t cs ds (by omega) (by omega) (by have := hr; simp only [A0, decide_eq_true_eq] at this; omega)
 rw [Q4, CG Q4] at rd
 simp only [Ez, A8] at rd
 have htl : (AB ls).take ls.length = AB ls := AD ls
 have hto : (oss ps).take ps.length = oss ps := List.take_of_length_le (by simp [oss])
 generalize Tl w t cs ds = x at *
 refine AE (md := mdl) (ms := [false, false]) Al (by simp) ?_
 simp [Ai]
 refine AA val ?_
 simp
 refine AA rd ?_
 simp
 refine AA cp ?_
 simp
 (repeat' first | omega | apply And.intro) <;>
 ·refine AA pt ?_
  simp [htl, hto]
theorem mQ (W T : Int) (cs : List Bool) (ds ls : List Int) (ps : List (List Int)) (h : Am W T cs ds ls ps = true) :
  SoundAt Tryz.prog Ah [bkA W T cs ds ls ps, .v (tx [108, 101, 102, 116])] (.tup [bkO W T cs ds ls ps, .v (tx (RO (Bg cs - 2 * JA ls)))]) [.bot, .bot] := by
 obtain ⟨hc, hd, hl, hb, hp, val⟩ := F1 h
 obtain ⟨hf, h20, hpf⟩ := Aa h
 obtain ⟨hr, hdg, hy, ho⟩ := AR hf
 have rd := Ax [108, 101, 102, 116] (by decide)
 have cp := An h
 have lf := Si W T cs ds ls ps (by omega) (by omega) (by omega) (by omega) (fun p hp1 => by have := hp p hp1; omega)
 simp only [dI, h, if_true] at lf
 have h0 := aa h
 have h1 := Hx cs
 have it := Fy ((Bg cs : Int) - 2 * JA ls) h0 (by omega)
 rw [Xd, CG Xd] at rd
 simp only [Ez, A8] at rd
 have htl : (AB ls).take ls.length = AB ls := AD ls
 have hto : (oss ps).take ps.length = oss ps := List.take_of_length_le (by simp [oss])
 refine AE (md := mdl) (ms := [false, false]) Al (by simp) ?_
 simp [Ai]
 refine AA val ?_
 simp
 refine AA rd ?_
 simp
 refine AA cp ?_
 simp
 (repeat' first | omega | apply And.intro) <;>
 ·refine AA lf ?_
  simp
  (repeat' first | omega | apply And.intro) <;>
  ·refine AA it ?_
   simp [htl, hto]
theorem mR (W T : Int) (cs : List Bool) (ds ls : List Int) (ps : List (List Int)) (h : Am W T cs ds ls ps = true) :
  SoundAt Tryz.prog Ah [bkA W T cs ds ls ps, .v (tx [112, 97, 115, 116])] (.tup [bkO W T cs ds ls ps, .v (tx (RO (ps.length : Int)))]) [.bot, .bot] := by
 obtain ⟨hc, hd, hl, hb, hp, val⟩ := F1 h
 obtain ⟨hf, h20, hpf⟩ := Aa h
 obtain ⟨hr, hdg, hy, ho⟩ := AR hf
 have rd := Ax [112, 97, 115, 116] (by decide)
 have cp := An h
 have it := Fy (ps.length : Int) (by omega) (by omega)
 rw [Xe, CG Xe] at rd
 simp only [Ez, A8] at rd
 have htl : (AB ls).take ls.length = AB ls := AD ls
 have hto : (oss ps).take ps.length = oss ps := List.take_of_length_le (by simp [oss])
 refine AE (md := mdl) (ms := [false, false]) Al (by simp) ?_
 simp [Ai]
 refine AA val ?_
 simp
 refine AA rd ?_
 simp
 refine AA cp ?_
 simp
 (repeat' first | omega | apply And.intro) <;>
 ·refine AA it ?_
  simp [htl, hto]
theorem gE (W T : Int) (cs : List Bool) (ds ls : List Int) (ps : List (List Int)) (h : Am W T cs ds ls ps = true) :
  SoundAt Tryz.prog Ah [bkA W T cs ds ls ps, .v (tx [115, 111, 108, 118, 101, 100])] (.tup [bkO W T cs ds ls ps, .v (tx (eh (J7 cs ls)))]) [.bot, .bot] := by
 obtain ⟨hc, hd, hl, hb, hp, val⟩ := F1 h
 obtain ⟨hf, h20, hpf⟩ := Aa h
 obtain ⟨hr, hdg, hy, ho⟩ := AR hf
 have rd := Ax [115, 111, 108, 118, 101, 100] (by decide)
 have cp := An h
 have fu := Rb W T cs ds ls ps (by omega) (by omega) (by omega) (by omega) (fun p hp1 => by have := hp p hp1; omega)
 simp only [fj, h, Bool.true_and] at fu
 have ye := KK (J7 cs ls) [121, 101, 115]
 rw [Q5, CG Q5] at rd
 simp only [Ez, A8] at rd
 have htl : (AB ls).take ls.length = AB ls := AD ls
 have hto : (oss ps).take ps.length = oss ps := List.take_of_length_le (by simp [oss])
 refine AE (md := mdl) (ms := [false, false]) Al (by simp) ?_
 simp [Ai]
 refine AA val ?_
 simp
 refine AA rd ?_
 simp
 refine AA cp ?_
 simp
 (repeat' first | omega | apply And.intro) <;>
 ·refine AA fu ?_
  simp
  (repeat' first | omega | apply And.intro) <;>
  ·refine AA ye ?_
   simp [htl, hto, eh]
set_option maxHeartbeats 4000000 in
theorem mS (W T : Int) (cs : List Bool) (ds ls : List Int) (ps : List (List Int)) (h : Am W T cs ds ls ps = true) :
  SoundAt Tryz.prog Ah [bkA W T cs ds ls ps, .v (tx [100, 101, 97, 100])] (.tup [bkO W T cs ds ls ps, .v (tx (eh (SX W T cs ds ls)))]) [.bot, .bot] := by
 obtain ⟨hc, hd, hl, hb, hp, val⟩ := F1 h
 obtain ⟨hf, h20, hpf⟩ := Aa h
 obtain ⟨hr, hdg, hy, ho⟩ := AR hf
 have rd := Ax [100, 101, 97, 100] (by decide)
 have cp := An h
 have fu := ZT W T cs ds ls (by omega) (by omega) (by omega)
 have ye := KK (SX W T cs ds ls) [121, 101, 115]
 rw [Xf, CG Xf] at rd
 simp only [Ez, A8] at rd
 have htl : (AB ls).take ls.length = AB ls := AD ls
 have hto : (oss ps).take ps.length = oss ps := List.take_of_length_le (by simp [oss])
 refine AE (md := mdl) (ms := [false, false]) Al (by simp) ?_
 simp [Ai]
 refine AA val ?_
 simp
 refine AA rd ?_
 simp
 refine AA cp ?_
 simp
 (repeat' first | omega | apply And.intro) <;>
 ·refine AA fu ?_
  simp
  (repeat' first | omega | apply And.intro) <;>
  ·refine AA ye ?_
   simp [htl, hto, eh]
set_option maxHeartbeats 4000000 in
theorem mT (W T : Int) (cs : List Bool) (ds ls : List Int) (ps : List (List Int)) (h : Am W T cs ds ls ps = true) :
  SoundAt Tryz.prog Ah [bkA W T cs ds ls ps, .v (tx [104, 105, 110, 116])] (.tup [bkO W T cs ds ls ps, .v (tx (if LJ W T cs ds ls < 0 then Yp else CA (0, LJ W T cs ds ls, Ny W T cs ds ls)))]) [.bot, .bot] := by
 obtain ⟨hc, hd, hl, hb, hp, val⟩ := F1 h
 obtain ⟨hf, h20, hpf⟩ := Aa h
 obtain ⟨hr, hdg, hy, ho⟩ := AR hf
 have rd := Ax [104, 105, 110, 116] (by decide)
 have cp := An h
 have hi := XS W T cs ds ls (by omega) (by omega) (by omega)
 have dt := NS (0, LJ W T cs ds ls, Ny W T cs ds ls)
 simp only [A8] at dt
 rw [Xg, CG Xg] at rd
 simp only [Ez, A8] at rd
 have htl : (AB ls).take ls.length = AB ls := AD ls
 have hto : (oss ps).take ps.length = oss ps := List.take_of_length_le (by simp [oss])
 generalize LJ W T cs ds ls = c at *
 generalize Ny W T cs ds ls = x at *
 refine AE (md := mdl) (ms := [false, false]) Al (by simp) ?_
 simp [Ai]
 refine AA val ?_
 simp
 refine AA rd ?_
 simp
 refine AA cp ?_
 simp
 (repeat' first | omega | apply And.intro) <;>
 ·refine AA hi ?_
  by_cases hc : c < 0
  ·simp [hc, htl, hto, Yp]
  ·simp [hc]
   (repeat' first | omega | apply And.intro) <;>
   ·refine AA dt ?_
    simp [htl, hto]
set_option maxHeartbeats 4000000 in
theorem oM (W T : Int) (cs : List Bool) (ds ls : List Int) (ps : List (List Int)) (h : Am W T cs ds ls ps = true) :
  SoundAt Tryz.prog Ah [bkA W T cs ds ls ps, .v (tx [101, 110, 100])] (.tup [bkO W T cs ds (C7 W T cs ds ls ps [101, 110, 100]).1 (C7 W T cs ds ls ps [101, 110, 100]).2.1, .v (tx (C7 W T cs ds ls ps [101, 110, 100]).2.2)]) [.bot, .bot] := by
 obtain ⟨hc, hd, hl, hb, hp, val⟩ := F1 h
 have rd := Ax [101, 110, 100] (by decide)
 have cp := An h
 have ed := Ue W T cs ds ls ps (by omega) (by omega) (by omega) (by omega) (fun p hp1 => by have := hp p hp1; omega)
 rw [Zk h] at ed
 have hx72 : (bn W T cs ds ls).length ≤ 72 := by rw [← Zk h]; exact Ug W T cs ds ls ps
 rw [WM, CG WM] at rd
 simp only [Ez, A8] at rd
 simp only [C7, WM, if_true, Bool.false_eq_true, if_false]
 refine AE (md := mdl) (ms := [false, false]) Al (by simp) ?_
 generalize bn W T cs ds ls = xs at *
 simp [Ai]
 refine AA val ?_
 simp
 refine AA rd ?_
 simp
 refine AA cp ?_
 simp
 refine AA ed ?_
 simp
 refine AF (fun m E H => ∃ (i : Nat) (l : List Int) (p : List (List Int)) (n : Nat), m = xs.length - i ∧ i ≤ xs.length ∧ Ki (mK W T cs ds) ls ps (xs.take i) = (l, p, n) ∧ Am W T cs ds l p = true ∧
  E = [(4, .lp 0 0 0 0), (8, .lp 0 1 0 0), (11, .ls 3 2 0 xs.length), (12, .v (.int .i64 i))] ∧
  H = [some (.box [.v (.int .i64 0), .v (.int .i64 0), .os 1 [], .os 1 [], .os 1 [], .os 1 []]), some (.box [.v (.int .i64 W), .v (.int .i64 T), .ls 1 3 0 cs.length, .ls 1 4 0 ds.length, .ls 1 5 0 l.length, .ls 1 6 0 p.length]), some (.arr 3 (dsA xs)),
    some (.arr 1 (AC cs)), some (.arr 1 (AB ds)), some (.arr 1 (AB l)), some (.arr 1 (oss p))]) xs.length ⟨0, ls, ps, 0, by simp, by omega, by simp [Ki], h, by simp, by simp⟩ ?_
 rintro J hJ m E H ⟨i, l, p, n, rfl, hi, hrr, hbk, rfl, rfl⟩
 have htl : (AB l).take l.length = AB l := AD l
 have hto : (oss p).take p.length = oss p := List.take_of_length_le (by simp [oss])
 by_cases hlt : i < xs.length
 ·obtain ⟨hc2, hd2, hl2, hb2, hp2, _⟩ := F1 hbk
  have hdo := Qz W T cs ds l p xs[i].1 xs[i].2.1 xs[i].2.2 (by omega) (by omega) (by omega) (by omega) hp2
  rw [hbk] at hdo
  simp only [if_true, Bool.true_and] at hdo
  have hbk2 := fw xs[i].1 xs[i].2.1 xs[i].2.2 hbk
  have hr2 : Ki (mK W T cs ds) ls ps (xs.take (i + 1)) = ((doI W T cs ds l p xs[i].1 xs[i].2.1 xs[i].2.2).2.1, (doI W T cs ds l p xs[i].1 xs[i].2.1 xs[i].2.2).2.2, n + if (doI W T cs ds l p xs[i].1 xs[i].2.1 xs[i].2.2).1 then 1 else 0) := by
   rw [List.take_succ_eq_append_getElem hlt, O8, hrr]
  generalize doI W T cs ds l p xs[i].1 xs[i].2.1 xs[i].2.2 = r at *
  obtain ⟨b, l2, p2⟩ := r
  have htl2 : (AB l2).take l2.length = AB l2 := AD l2
  have hto2 : (oss p2).take p2.length = oss p2 := List.take_of_length_le (by simp [oss])
  simp only at hdo hbk2 hr2
  have hg := aL hlt
  simp [Dp, hlt, hg, A8]
  (repeat' first | omega | apply And.intro) <;>
  ·refine AA hdo ?_
   simp
   exact ⟨by omega, _, by omega, hJ _ _ _ ⟨i + 1, l2, p2, _, rfl, hlt, hr2, hbk2, by simp, by simp⟩⟩
 ·have : i = xs.length := by omega
  subst this
  rw [List.take_length] at hrr
  have e : kh W T cs ds ls ps xs = (l, p, n) := hrr
  rw [e]
  by_cases hx : xs = []
  ·simp [Dp, hx, htl, hto, Yp]
  ·have hx0 : ¬ xs.length = 0 := fun e => hx (List.eq_nil_of_length_eq_zero e)
   simp [Dp, hx, hx0, htl, hto]
set_option maxHeartbeats 4000000 in
theorem Nb (W T : Int) (cs : List Bool) (ds ls : List Int) (ps : List (List Int)) (s : List UInt8) (hc : cs.length ≤ 2 ^ 30) (hd : ds.length ≤ 2 ^ 30) (hl : ls.length ≤ 2 ^ 30) (hb : ps.length ≤ 2 ^ 30) (hp : ∀ p ∈ ps, p.length ≤ 2 ^ 30) (hs : s.length < 2 ^ 30) :
  SoundAt Tryz.prog Ah [bkA W T cs ds ls ps, .v (tx s)] (WN (bkO W T cs ds) (bkO 0 0 [] [] [] []) W T cs ds ls ps s) [.bot, .bot] := by
 unfold WN
 cases h : Am W T cs ds ls ps with
 | false =>
   have hv := Bm W T cs ds ls ps (by omega) (by omega) (by omega) (by omega) (fun p h => by have := hp p h; omega)
   rw [h] at hv
   refine AE (md := mdl) (ms := [false, false]) Al (by simp) ?_
   simp [Ai]
   refine AA hv ?_
   simp
 | true =>
 rw [if_pos rfl]
 cases hr : Ci s with
 | true => exact oi W T cs ds ls ps s h hs hr
 | false =>
 by_cases h0 : s = [101, 110, 100]
 ·subst h0; exact oM W T cs ds ls ps h
 have e : C7 W T cs ds ls ps s = (ls, ps, mO W T cs ds ls ps s) := by simp [C7, hr, h0]
 rw [e]
 simp only [mO]
 by_cases h1 : s = [115, 104, 111, 119]
 ·subst h1; exact mP W T cs ds ls ps h
 rw [if_neg h1]
 by_cases h2 : s = [100, 105, 103, 105, 116, 115]
 ·subst h2; exact gD W T cs ds ls ps h
 rw [if_neg h2]
 by_cases h3 : s = [108, 101, 102, 116]
 ·subst h3; exact mQ W T cs ds ls ps h
 rw [if_neg h3]
 by_cases h4 : s = [112, 97, 115, 116]
 ·subst h4; exact mR W T cs ds ls ps h
 rw [if_neg h4]
 by_cases h5 : s = [115, 111, 108, 118, 101, 100]
 ·subst h5; exact gE W T cs ds ls ps h
 rw [if_neg h5]
 by_cases h6 : s = [100, 101, 97, 100]
 ·subst h6; exact mS W T cs ds ls ps h
 rw [if_neg h6]
 by_cases h7 : s = [104, 105, 110, 116]
 ·subst h7; exact mT W T cs ds ls ps h
 rw [if_neg h7]
 obtain ⟨_, _, _, _, _, val⟩ := F1 h
 have rd := Ax s hs
 have cp := An h
 rw [hr, CG hr] at rd
 simp only [Ez, A8] at rd
 have htl : (AB ls).take ls.length = AB ls := AD ls
 have hto : (oss ps).take ps.length = oss ps := List.take_of_length_le (by simp [oss])
 refine AE (md := mdl) (ms := [false, false]) Al (by simp) ?_
 simp [Ai]
 refine AA val ?_
 simp
 refine AA rd ?_
 simp
 refine AA cp ?_
 simp [h0, h1, h2, h3, h4, h5, h6, h7, htl, hto]
end Go.Proofs.Dev
