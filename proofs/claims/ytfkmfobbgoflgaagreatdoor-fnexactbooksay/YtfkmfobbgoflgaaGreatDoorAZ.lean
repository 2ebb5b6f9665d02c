/- Contracts of the functions of the program over slots and rows, each proved against the program itself; no condition beyond those that each theorem names. -/
import Derived.Test.YtfkmfobbgoflgaaGreatDoorAI
import Derived.Test.YtfkmfobbgoflgaaGreatDoorProg
import Derived.Test.YtfkmfobbgoflgaaGreatDoorAY
import Derived.Test.YtfkmfobbgoflgaaGreatDoorAJ
import Derived.Test.YtfkmfobbgoflgaaGreatDoorAV
import Derived.Test.YtfkmfobbgoflgaaGreatDoorAW
import Derived.Test.YtfkmfobbgoflgaaGreatDoorAX
import Derived.Test.YtfkmfobbgoflgaaGreatDoorAM
import Derived.Test.YtfkmfobbgoflgaaGreatDoorAQ
import Derived.Test.YtfkmfobbgoflgaaGreatDoorAN
set_option linter.unusedSimpArgs false
set_option linter.unusedVariables false
set_option maxRecDepth 100000
namespace Go.Proofs.Dev
@[simp] abbrev Ir : Nat := 76
def Cd : ACode := .seq (.seq (.reg [.m 21 7, .f 22 0 2, .l 23 22, .o 24 (.bin .lss 0) [.t 21, .t 23]]) <| .cond (.t 24) ( .skip) ( .exit 2)) <| .seq (.block 3 ( .seq (.reg [.m 27 6, .f 28 0 2, .l 29 28, .o 30 (.bin .mul 0) [.t 27, .t 29], .m 31 7, .o 32 (.bin .add 0) [.t 30, .t 31], .m 8 32]) <| .seq (.reg [.f 33 2 2, .l 34 33, .m 35 8, .o 36 (.iadr 1) [.t 34, .t 35], .l 37 36]) <| .cond (.t 37) ( .reg [.m 38 5, .o 39 (.bsl 1) [.c (.v (.string ⟨#[35]⟩)), .c (.v (.string ⟨#[101]⟩)), .c (.v (.string ⟨#[110]⟩)), .c (.v (.string ⟨#[119]⟩)), .c (.v (.string ⟨#[115]⟩))], .m 40 1, .m 41 8, .o 42 (.iadr 1) [.t 40, .t 41], .l 43 42, .o 44 (.iadr 1) [.t 39, .t 43], .l 45 44, .o 46 (.bin .add 1) [.t 38, .t 45], .m 5 46]) ( .reg [.m 47 5, .o 48 (.bin .add 1) [.t 47, .c (.v (.string ⟨#[46]⟩))], .m 5 48]))) <| .reg [.m 25 7, .o 26 (.bin .add 0) [.t 25, .k 1], .m 7 26]
def Fs : ACode := .seq (.seq (.reg [.m 12 6, .o 13 (.bin .geq 0) [.t 12, .k 0], .m 14 13, .g 15 (.load true 3) [.t 2] 14 true, .mg 16 1 14 true, .g 17 (.call 122 []) [.t 15, .t 16] 14 true, .o 18 .pick [.t 14, .t 17, .kb false]]) <| .cond (.t 18) ( .skip) ( .exit 0)) <| .seq (.block 1 ( .seq (.seq (.reg [.o 7 .mv [.k 0]]) <| .block 2 ( .loop [(1, 1)] [1, 2, 5, 6, 7] Cd)) <| .seq (.reg [.m 49 6, .o 50 (.bin .gtr 0) [.t 49, .k 0]]) <| .cond (.t 50) ( .reg [.m 51 5, .o 52 (.bin .add 1) [.t 51, .c (.v (.string ⟨#[47]⟩))], .m 5 52]) ( .skip))) <| .reg [.m 19 6, .o 20 (.bin .sub 0) [.t 19, .k 1], .m 6 20]
def NJ : ACode := .seq (.reg [.o 2 .box [.t 0], .o 4 .mv [.c (.v (.string ⟨#[]⟩))]]) <| .seq (.reg [.o 5 .mv [.c (.v (.string ⟨#[]⟩))]]) <| .seq (.seq (.reg [.f 9 1 2, .l 10 9, .o 11 (.bin .sub 0) [.t 10, .k 1], .m 6 11]) <| .block 0 ( .loop [(1, 1)] [1, 2, 5, 6] Fs)) <| .seq (.reg [.m 53 5, .m 4 53]) <| .ret
theorem Ue : cFn Tryz.prog Ir 54 [.t 4] NJ := ⟨Tryz.f76, _, Tryz.func76, rfl, by kernel_rfl, by kernel_rfl, by kernel_rfl, by kernel_rfl⟩
@[simp] abbrev Kr : Nat := 181
def Gb : ACode := .seq (.reg [.o 4 .mv [.c (.v (.int .u8 (0)))]]) <| .seq (.seq (.reg [.f 5 2 1, .l 6 5, .m 7 0, .o 8 (.iadr 1) [.t 6, .t 7], .l 9 8, .o 10 (.un .not) [.t 9]]) <| .cond (.t 10) ( .seq (.reg [.o 4 .mv [.c (.v (.int .u8 (46)))]]) <| .ret) ( .skip)) <| .seq (.reg [.l 11 2, .m 12 0, .o 13 (.iadr 1) [.t 11, .t 12], .l 14 13, .o 15 .sidx [.c (.v (.string ⟨#[35, 101, 110, 119, 115]⟩)), .t 14], .m 4 15]) <| .ret
theorem Rh : cFn Tryz.prog Kr 16 [.t 4] Gb := ⟨Tryz.f181, _, Tryz.func181, rfl, by kernel_rfl, by kernel_rfl, by kernel_rfl, by kernel_rfl⟩
@[simp] abbrev NK : Nat := 128
def NL : ACode := .seq (.reg [.o 2 .box [.t 0], .o 3 .box [.t 1], .o 4 .mv [.c (.v (.string ⟨#[]⟩))]]) <| .seq (.seq (.reg [.la 5 3 2, .l 6 3, .o 7 (.call 179 []) [.t 5, .t 6], .o 8 (.un .not) [.t 7]]) <| .cond (.t 8) ( .seq (.reg [.o 4 .mv [.c (.v (.string ⟨#[]⟩))]]) <| .ret) ( .skip)) <| .seq (.reg [.la 9 3 2, .o 10 (.mkfn 181) [.t 2, .t 3], .o 11 (.call 180 []) [.t 9, .t 10], .m 4 11]) <| .ret
theorem Uf : cFn Tryz.prog NK 12 [.t 4] NL := ⟨Tryz.f128, _, Tryz.func128, rfl, by kernel_rfl, by kernel_rfl, by kernel_rfl, by kernel_rfl⟩
@[simp] abbrev V2 : Nat := 131
def V3 : ACode := .seq (.reg [.o 2 .mv [.c (.v (.string ⟨#[]⟩))]]) <| .seq (.seq (.reg [.m 3 0]) <| .cond (.t 3) ( .seq (.reg [.o 2 .mv [.c (.v (.string ⟨#[121, 101, 115]⟩))]]) <| .ret) ( .skip)) <| .seq (.reg [.o 2 .mv [.c (.v (.string ⟨#[110, 111]⟩))]]) <| .ret
theorem bK : cFn Tryz.prog V2 4 [.t 2] V3 := ⟨Tryz.f131, _, Tryz.func131, rfl, by kernel_rfl, by kernel_rfl, by kernel_rfl, by kernel_rfl⟩
@[simp] abbrev OX : Nat := 74
def OY : ACode := .seq (.reg [.o 4 .mv [.c (.v (.string ⟨#[]⟩))]]) <| .seq (.seq (.reg [.m 5 0]) <| .cond (.t 5) ( .seq (.reg [.m 6 1, .m 4 6]) <| .ret) ( .skip)) <| .seq (.reg [.o 4 .mv [.c (.v (.string ⟨#[110, 111]⟩))]]) <| .ret
theorem Va : cFn Tryz.prog OX 7 [.t 4] OY := ⟨Tryz.f74, _, Tryz.func74, rfl, by kernel_rfl, by kernel_rfl, by kernel_rfl, by kernel_rfl⟩
@[simp] abbrev Ac : Nat := 61
def DL : ACode := .seq (.reg [.o 29 (.bin .lss 0) [.t 28, .t 27]]) <| .seq (.cond (.t 29) ( .skip) ( .exit 1)) <| .seq (.block 2 ( .seq (.reg [.o 30 (.iadr 3) [.t 26, .t 28], .la 31 3 30, .o 9 (.alloc dz) [], .s (.store 3) [.t 9, .t 31]]) <| .reg [.m 32 0, .la 33 3 9, .o 34 (.call 65 []) [.t 32, .t 33]])) <| .reg [.o 35 (.bin .add 0) [.t 28, .k 1], .m 28 35]
abbrev BS : Plan := .al (.o 117 (.call 133 []) [.t 108, .t 112, .t 116]) ( .take (.m 104 117) <| .take (.e 118 0 104) <| .take (.e 119 1 104) <| .take (.m 10 118) <| .take (.m 11 119) <| .done)
abbrev BT : Plan := .al (.o 100 (.call 132 []) [.t 91, .t 95, .t 99]) ( .al (.o 101 (.call 131 []) [.t 100]) ( .take (.m 4 101) <| .done))
abbrev It : Plan := .al (.o 84 (.call 101 []) [.t 79, .t 83]) ( .al (.o 85 (.call 131 []) [.t 84]) ( .take (.m 4 85) <| .done))
abbrev Iu : Plan := .al (.o 49 (.call 128 []) [.t 44, .t 48]) ( .take (.m 4 49) <| .done)
abbrev Iv : Plan := .al (.o 60 (.call 129 []) [.t 55, .t 59]) ( .take (.m 4 60) <| .done)
def Ai : ACode := .seq (.reg [.o 4 .mv [.c (.v (.string ⟨#[]⟩))]]) <| .seq (.seq (.reg [.m 13 1, .o 14 (.call 52 []) [.t 13], .m 12 14, .e 15 0 12, .e 16 1 12, .o 5 (.alloc dz) [], .s (.store 3) [.t 5, .t 15], .m 6 16]) <| .seq (.reg [.m 17 6]) <| .cond (.t 17) ( .seq (.seq (.reg [.m 18 0, .la 19 3 5, .o 20 (.call 65 []) [.t 18, .t 19]]) <| .cond (.t 20) ( .seq (.reg [.o 4 .mv [.c (.v (.string ⟨#[111, 107]⟩))]]) <| .ret) ( .skip)) <| .seq (.reg [.o 4 .mv [.c (.v (.string ⟨#[110, 111]⟩))]]) <| .ret) ( .skip)) <| .seq (.seq (.reg [.m 21 1]) <| .block 0 ( .seq (.reg [.o 23 (.bin .eql 1) [.t 21, .c (.v (.string ⟨#[101, 110, 100]⟩))], .m 22 23]) <| .cond (.t 22) ( .seq (.reg [.m 24 0, .o 25 (.call 127 []) [.t 24], .m 7 25]) <| .seq (.seq (.reg [.m 26 7, .n 27 26, .o 28 .mv [.k 0]]) <| .block 1 ( .loop [(7, 3), (26, 3)] [0, 7, 26, 27, 28, 126] DL)) <| .seq (.seq (.reg [.m 36 7, .n 37 36, .o 38 (.bin .eql 0) [.t 37, .k 0]]) <| .cond (.t 38) ( .seq (.reg [.o 4 .mv [.c (.v (.string ⟨#[110, 111, 110, 101]⟩))]]) <| .ret) ( .skip)) <| .seq (.reg [.o 4 .mv [.c (.v (.string ⟨#[111, 107]⟩))]]) <| .ret) ( .seq (.reg [.o 40 (.bin .eql 1) [.t 21, .c (.v (.string ⟨#[115, 104, 111, 119]⟩))], .m 39 40]) <| .cond (.t 39) ( .seq (.draw ( .take (.m 41 0) <| .take (.o 42 .nilck [.t 41]) <| .take (.f 43 0 42) <| .take (.m 45 0) <| .take (.o 46 .nilck [.t 45]) <| .take (.f 47 4 46) <| .alt (.la 44 3 43) ( .al (.l 48 47) Iu) <| .al (.l 48 47) ( .al (.la 44 3 43) Iu))) <| .ret) ( .seq (.reg [.o 51 (.bin .eql 1) [.t 21, .c (.v (.string ⟨#[100, 105, 103, 105, 116, 115]⟩))], .m 50 51]) <| .cond (.t 50) ( .seq (.draw ( .take (.m 52 0) <| .take (.o 53 .nilck [.t 52]) <| .take (.f 54 0 53) <| .take (.m 56 0) <| .take (.o 57 .nilck [.t 56]) <| .take (.f 58 3 57) <| .alt (.la 55 3 54) ( .al (.l 59 58) Iv) <| .al (.l 59 58) ( .al (.la 55 3 54) Iv))) <| .ret) ( .seq (.reg [.o 62 (.bin .eql 1) [.t 21, .c (.v (.string ⟨#[108, 101, 102, 116]⟩))], .m 61 62]) <| .cond (.t 61) ( .seq (.reg [.m 63 0, .o 64 (.call 130 []) [.t 63], .o 65 (.call 64 []) [.t 64], .m 4 65]) <| .ret) ( .seq (.reg [.o 67 (.bin .eql 1) [.t 21, .c (.v (.string ⟨#[112, 97, 115, 116]⟩))], .m 66 67]) <| .cond (.t 66) ( .seq (.reg [.m 68 0, .o 69 .nilck [.t 68], .f 70 5 69, .l 71 70, .n 72 71, .o 73 (.call 64 []) [.t 72], .m 4 73]) <| .ret) ( .seq (.reg [.o 75 (.bin .eql 1) [.t 21, .c (.v (.string ⟨#[115, 111, 108, 118, 101, 100]⟩))], .m 74 75]) <| .cond (.t 74) ( .seq (.draw ( .take (.m 76 0) <| .take (.o 77 .nilck [.t 76]) <| .take (.f 78 0 77) <| .take (.m 80 0) <| .take (.o 81 .nilck [.t 80]) <| .take (.f 82 4 81) <| .alt (.la 79 3 78) ( .al (.l 83 82) It) <| .al (.l 83 82) ( .al (.la 79 3 78) It))) <| .ret) ( .seq (.reg [.o 87 (.bin .eql 1) [.t 21, .c (.v (.string ⟨#[100, 101, 97, 100]⟩))], .m 86 87]) <| .cond (.t 86) ( .seq (.draw ( .take (.m 88 0) <| .take (.o 89 .nilck [.t 88]) <| .take (.f 90 0 89) <| .take (.m 92 0) <| .take (.o 93 .nilck [.t 92]) <| .take (.f 94 3 93) <| .take (.m 96 0) <| .take (.o 97 .nilck [.t 96]) <| .take (.f 98 4 97) <| .alt (.la 91 3 90) ( .alt (.l 95 94) ( .al (.l 99 98) BT) <| .al (.l 99 98) ( .al (.l 95 94) BT)) <| .alt (.l 95 94) ( .alt (.la 91 3 90) ( .al (.l 99 98) BT) <| .al (.l 99 98) ( .al (.la 91 3 90) BT)) <| .al (.l 99 98) ( .alt (.la 91 3 90) ( .al (.l 95 94) BT) <| .al (.l 95 94) ( .al (.la 91 3 90) BT)))) <| .ret) ( .seq (.reg [.o 103 (.bin .eql 1) [.t 21, .c (.v (.string ⟨#[104, 105, 110, 116]⟩))], .m 102 103]) <| .cond (.t 102) ( .seq (.draw ( .take (.m 105 0) <| .take (.o 106 .nilck [.t 105]) <| .take (.f 107 0 106) <| .take (.m 109 0) <| .take (.o 110 .nilck [.t 109]) <| .take (.f 111 3 110) <| .take (.m 113 0) <| .take (.o 114 .nilck [.t 113]) <| .take (.f 115 4 114) <| .alt (.la 108 3 107) ( .alt (.l 112 111) ( .al (.l 116 115) BS) <| .al (.l 116 115) ( .al (.l 112 111) BS)) <| .alt (.l 112 111) ( .alt (.la 108 3 107) ( .al (.l 116 115) BS) <| .al (.l 116 115) ( .al (.la 108 3 107) BS)) <| .al (.l 116 115) ( .alt (.la 108 3 107) ( .al (.l 112 111) BS) <| .al (.l 112 111) ( .al (.la 108 3 107) BS)))) <| .seq (.seq (.reg [.m 120 10, .o 121 (.bin .lss 0) [.t 120, .k 0]]) <| .cond (.t 121) ( .seq (.reg [.o 4 .mv [.c (.v (.string ⟨#[110, 111, 110, 101]⟩))]]) <| .ret) ( .skip)) <| .seq (.reg [.m 122 10, .m 123 11, .o 124 (.build dz [(0, 1), (1, 1), (2, 1)]) [.k 0, .t 122, .t 123], .o 125 (.call 20 []) [.t 124], .m 4 125]) <| .ret) ( .skip)))))))))) <| .seq (.reg [.o 4 .mv [.c (.v (.string ⟨#[119, 104, 97, 116]⟩))]]) <| .ret
theorem An : cFn Tryz.prog Ac 126 [.t 4] Ai := ⟨Tryz.f61, _, Tryz.func61, rfl, by kernel_rfl, by kernel_rfl, by kernel_rfl, by kernel_rfl⟩
open Go.RowKit
abbrev ltE (o : List UInt8) (ls : List Int) (y : Int) : ES := [(1, .sl 1 1 (AB ls)), (2, .lp 0 0 0 0), (5, .v (tx o)), (6, .v (.int .i64 y))]
abbrev ny (o : List UInt8) (ls : List Int) (y x : Int) : ES := [(1, .sl 1 1 (AB ls)), (2, .lp 0 0 0 0), (5, .v (tx o)), (6, .v (.int .i64 y)), (7, .v (.int .i64 x))]
set_option maxHeartbeats 2000000 in
theorem nz (W T : Nat) (cs : List Bool) (ls : List Int) (o : List UInt8) (y : Nat) (hW : W ≤ 6) (hT : T ≤ 6) (hy : y < T) (hl : cs.length = T * W) (hd : ls.length = cs.length) (hw : X4 ls) (ho : o.length ≤ 100) (Qc : AExit → ES → AH → Prop)
  (hend : ∀ E, get E 1 = .sl 1 1 (AB ls) → get E 2 = .lp 0 0 0 0 → get E 5 = .v (tx (o ++ NU (sgW cs ls) W y)) → get E 6 = .v (.int .i64 y) → Qc (.exit 2) E [some (.box [.v (.int .i64 W), .v (.int .i64 T), .sl 1 1 (AC cs)])]) :
  EI [(1, 1)] [1, 2, 5, 6, 7] (awp Tryz.prog mdT Cd) Qc (ny o ls y 0) [some (.box [.v (.int .i64 W), .v (.int .i64 T), .sl 1 1 (AC cs)])] := by
 refine AF (fun m E H => ∃ x : Nat, m = W - x ∧ x ≤ W ∧ E = ny (o ++ (NU (sgW cs ls) W y).take x) ls y x ∧ H = [some (.box [.v (.int .i64 W), .v (.int .i64 T), .sl 1 1 (AC cs)])]) W ⟨0, by simp⟩ ?_
 rintro J hJ m E H ⟨x, rfl, hx, rfl, rfl⟩
 by_cases h : x < W
 ·have h' : (x : Int) < (W : Int) := by omega
  have hc := WV (T := T) hy h
  have hp : T * W ≤ 6 * 6 := Nat.mul_le_mul hT hW
  have e1 : (y : Int) * (W : Int) = ((y * W : Nat) : Int) := by simp
  have hk1 : (y * W + x : Int) < (cs.length : Int) := by rw [e1]; omega
  have hk2 : (y * W + x : Int) < (ls.length : Int) := by rw [e1]; omega
  have hk0 : (0 : Int) ≤ (y : Int) * (W : Int) := by rw [e1]; omega
  have hk3 : (y : Int) * (W : Int) ≤ 36 := by rw [e1]; omega
  have e2 : ((y : Int) * (W : Int) + (x : Int)) = ((y * W + x : Nat) : Int) := by rw [Int.natCast_add, e1]
  have tk := cX (sgW cs ls) y h
  have hlt : ((NU (sgW cs ls) W y).take x).length = x := by simp; omega
  have nx := hJ (W - (x + 1)) (ny (o ++ (NU (sgW cs ls) W y).take (x + 1)) ls y ((x : Int) + 1)) _ ⟨x + 1, rfl, h, by simp, rfl⟩
  rw [tk, ← List.append_assoc] at nx
  generalize hr : o ++ (NU (sgW cs ls) W y).take x = r at *
  have hrl : r.length ≤ 106 := by rw [← hr]; simp; omega
  have es : sgW cs ls (y * W + x) = if atb cs ((y : Int) * (W : Int) + (x : Int)) then mp (ati ls ((y : Int) * (W : Int) + (x : Int))) else 46 := by rw [e2]; rfl
  rw [es] at nx
  obtain ⟨w0, w1⟩ := hw ((y : Int) * (W : Int) + (x : Int)) (by omega) hk2
  cases hb : atb cs ((y : Int) * (W : Int) + (x : Int)) with
  | true =>
    rw [hb] at nx
    simp at nx
    have hc5 : ati ls ((y : Int) * (W : Int) + (x : Int)) = 0 ∨ ati ls ((y : Int) * (W : Int) + (x : Int)) = 1 ∨ ati ls ((y : Int) * (W : Int) + (x : Int)) = 2 ∨ ati ls ((y : Int) * (W : Int) + (x : Int)) = 3 ∨ ati ls ((y : Int) * (W : Int) + (x : Int)) = 4 := by omega
    rcases hc5 with h5 | h5 | h5 | h5 | h5 <;>
    ·rw [h5] at nx
     simp [mp] at nx
     simp [Cd, h', hb, hk1, hk2, h5]
     (repeat' first | omega | apply And.intro) <;> exact ⟨_, by omega, nx⟩
  | false =>
    rw [hb] at nx
    simp at nx
    simp [Cd, h', hb, hk1, hk2]
    (repeat' first | omega | apply And.intro) <;> exact ⟨_, by omega, nx⟩
 ·have : x = W := by omega
  subst this
  simp [Cd]
  exact hend _ rfl rfl (by rw [List.take_of_length_le (by simp)]; rfl) rfl
set_option maxHeartbeats 2000000 in
theorem Sd (W T : Nat) (cs : List Bool) (ls : List Int) (hr : A0 W T cs = true) (hy : AO W T cs ls = true) :
  SoundAt Tryz.prog Ir [.agg [.v (.int .i64 W), .v (.int .i64 T), .sl 1 1 (AC cs)], .sl 1 1 (AB ls)] (.v (tx (Uu W T cs ls))) [.bot, .bot] := by
 have hw := X5 hy
 have hll : ls.length = cs.length := by simp only [AO, Bool.and_eq_true, decide_eq_true_eq] at hy; exact hy.1
 have hr' := hr
 simp only [A0, decide_eq_true_eq] at hr'
 obtain ⟨w1, w2, t1, t2, hl, _⟩ := hr'
 have hl' : cs.length = T * W := by
  have : (cs.length : Int) = ((T * W : Nat) : Int) := by rw [hl, Int.natCast_mul, Int.mul_comm]
  exact Int.ofNat.inj this
 have tot := TV (sgW cs ls) T (W := W)
 have hp : T * (W + 1) ≤ 6 * 7 := Nat.mul_le_mul (by omega) (by omega)
 have hp2 : T * W ≤ 6 * 6 := Nat.mul_le_mul (by omega) (by omega)
 have pv := BV W T cs ls (by omega) (by omega)
 rw [hr, hy] at pv
 refine AE (md := mdT) (ms := [false, false]) Ue (by simp) ?_
 rw [Uu]
 simp only [Int.toNat_natCast]
 simp [NJ]
 refine ⟨by omega, ?_⟩
 refine AF (fun m E H => ∃ (n : Nat) (o : List UInt8), n = m ∧ n ≤ T ∧ o ++ Ej 47 (Hq (sgW cs ls) W n) = Ej 47 (Hq (sgW cs ls) W T) ∧ E = ltE o ls ((n : Int) - 1) ∧ H = [some (.box [.v (.int .i64 W), .v (.int .i64 T), .sl 1 1 (AC cs)])]) T ⟨T, [], by simp⟩ ?_
 rintro J hJ m E H ⟨n, o, rfl, hn, ho, rfl, rfl⟩
 cases n with
 | zero =>
   have ho' : o = Ej 47 (Hq (sgW cs ls) W T) := by simpa [Hq, Ej] using ho
   subst ho'
   simp [Fs]
 | succ n =>
   have lo : o.length ≤ 42 := by have := congrArg List.length ho; rw [List.length_append] at this; omega
   have e1 : ((n + 1 : Nat) : Int) - 1 = (n : Int) := by omega
   rw [e1]
   have body := fun Qc hend => nz W T cs ls o n (by omega) (by omega) (by omega) hl' hll hw (by omega) Qc hend
   simp [Fs]
   refine AA pv ?_
   simp
   refine body _ ?_
   intro E g1 g2 g5 g6
   have lr : (o ++ NU (sgW cs ls) W n).length ≤ 48 := by simp; omega
   cases n with
   | zero =>
     have nx := hJ 0 (ltE (o ++ NU (sgW cs ls) W 0) ls (-1)) _ ⟨0, _, rfl, by omega, by rw [← ho]; simp [Hq, Ej], rfl, rfl⟩
     simp [g1, g2, g5, g6]
     exact ⟨_, by omega, nx⟩
   | succ n =>
     have nx := hJ (n + 1) (ltE (o ++ NU (sgW cs ls) W (n + 1) ++ [47]) ls (n : Int)) _ ⟨n + 1, o ++ NU (sgW cs ls) W (n + 1) ++ [47], rfl, by omega, by rw [← ho, Vt W (sgW cs ls) (by omega : 0 < n + 1)]; simp, by rw [show ((n + 1 : Nat) : Int) - 1 = (n : Int) by omega], rfl⟩
     have hpos : (0 : Int) < (n : Int) + 1 := by omega
     generalize o ++ NU (sgW cs ls) W (n + 1) = r at *
     simp [g1, g2, g5, g6, hpos]
     exact ⟨by omega, by omega, _, by omega, nx⟩
theorem Ug (W T : Int) (cs : List Bool) (ls : List Int) (hr : A0 W T cs = true) (hy : AO W T cs ls = true) :
  SoundAt Tryz.prog Ir [.agg [.v (.int .i64 W), .v (.int .i64 T), .sl 1 1 (AC cs)], .sl 1 1 (AB ls)] (.v (tx (Uu W T cs ls))) [.bot, .bot] := by
 have hr' := hr
 simp only [A0, decide_eq_true_eq] at hr'
 obtain ⟨w, rfl⟩ : ∃ w : Nat, W = w := ⟨W.toNat, by omega⟩
 obtain ⟨t, rfl⟩ : ∃ t : Nat, T = t := ⟨T.toNat, by omega⟩
 exact Sd w t cs ls hr hy
theorem bL (W T : Int) (cs : List Bool) (ls : List Int) (k : Int) (h0 : 0 ≤ k) (h1 : k < ls.length) (hl : ls.length = cs.length) (hw : X4 ls) :
  SoundAt Tryz.prog Kr [.v (.int .i64 k), .vp 1 [.v (.int .i64 W), .v (.int .i64 T), .sl 1 1 (AC cs)] 0, .vp 1 [.sl 1 1 (AB ls)] 0] (.v (.int .u8 (toI (sgW cs ls k.toNat)))) [.bot, .bot, .bot] := by
 refine AE (md := mdT) (ms := [false, false, false]) Rh (by simp) ?_
 obtain ⟨w0, w1⟩ := hw k h0 h1
 have hk : k < (cs.length : Int) := by omega
 have ek : ((k.toNat : Nat) : Int) = k := by omega
 unfold sgW
 rw [ek]
 cases hb : atb cs k with
 | false => simp [Gb, h0, h1, hk, hb, toI]
 | true =>
   have hc5 : ati ls k = 0 ∨ ati ls k = 1 ∨ ati ls k = 2 ∨ ati ls k = 3 ∨ ati ls k = 4 := by omega
   rcases hc5 with h5 | h5 | h5 | h5 | h5 <;> simp [Gb, h0, h1, hk, hb, h5, mp, toI, Yc]
abbrev rlF (W T : Int) (cs : List Bool) (ls : List Int) : AV := .fn 181 [.vp 1 [.v (.int .i64 W), .v (.int .i64 T), .sl 1 1 (AC cs)] 0, .vp 1 [.sl 1 1 (AB ls)] 0]
abbrev rlE (W T : Int) (cs : List Bool) (ls : List Int) (k : Nat) (y : Int) : ES := [(1, rlF W T cs ls), (2, .lp 0 0 0 0), (5, .ls 1 1 0 k), (6, .v (.int .i64 y))]
abbrev n5 (W T : Nat) (cs : List Bool) (ls : List Int) (k : Nat) (y x : Int) : ES := [(1, rlF W T cs ls), (2, .lp 0 0 0 0), (5, .ls 1 1 0 k), (6, .v (.int .i64 y)), (7, .ls 1 2 0 W), (20, .v (.int .i64 W)), (21, .v (.int .i64 x))]
set_option maxHeartbeats 2000000 in
theorem n6 (W T : Nat) (cs : List Bool) (ls : List Int) (rs : List (List UInt8)) (y : Nat) (hW : W ≤ 6) (hT : T ≤ 6) (hy : y < T) (hl : cs.length = T * W) (hll : ls.length = cs.length) (hw : X4 ls) (Qc : AExit → ES → AH → Prop)
  (hend : ∀ E, get E 1 = rlF W T cs ls → get E 2 = .lp 0 0 0 0 → get E 5 = .ls 1 1 0 rs.length → get E 6 = .v (.int .i64 y) → get E 7 = .ls 1 2 0 W →
   Qc (.exit 2) E [some (.box [.v (.int .i64 W), .v (.int .i64 T), .sl 1 1 (AC cs)]), some (.arr 1 (txs rs)), some (.arr 1 (u8s ((NU (sgW cs ls) W y).map toI)))]) :
  EI [(5, 1), (7, 1)] [1, 2, 5, 6, 7, 20, 21] (awp Tryz.prog mdT AY) Qc (n5 W T cs ls rs.length y 0) [some (.box [.v (.int .i64 W), .v (.int .i64 T), .sl 1 1 (AC cs)]), some (.arr 1 (txs rs)), some (.arr 1 (List.replicate W (.v (.int .u8 0))))] := by
 rw [dg]
 refine AF (fun m E H => ∃ x : Nat, m = W - x ∧ x ≤ W ∧ E = n5 W T cs ls rs.length y x ∧ H = [some (.box [.v (.int .i64 W), .v (.int .i64 T), .sl 1 1 (AC cs)]), some (.arr 1 (txs rs)), some (.arr 1 (u8s (part 0 toI W 0 x (NU (sgW cs ls) W y) [])))]) W ⟨0, by simp [YT, full]⟩ ?_
 rintro J hJ m E H ⟨x, rfl, hx, rfl, rfl⟩
 by_cases h : x < W
 ·have h' : (x : Int) < (W : Int) := by omega
  have hxr : x < (NU (sgW cs ls) W y).length := by simp [h]
  have hc := WV (T := T) hy h
  have hp : T * W ≤ 6 * 6 := Nat.mul_le_mul hT hW
  have e1 : (y : Int) * (W : Int) = ((y * W : Nat) : Int) := by simp
  have q0 : (0 : Int) ≤ (y : Int) * (W : Int) := by rw [e1]; omega
  have q1 : (y : Int) * (W : Int) ≤ 36 := by rw [e1]; omega
  have q2 : ((y : Int) * (W : Int) + (x : Int)) < (ls.length : Int) := by rw [e1]; omega
  have e2 : ((y : Int) * (W : Int) + (x : Int)) = ((y * W + x : Nat) : Int) := by rw [Int.natCast_add, e1]
  have sg := bL W T cs ls ((y : Int) * (W : Int) + (x : Int)) (by omega) q2 hll hw
  have es : sgW cs ls ((y : Int) * (W : Int) + (x : Int)).toNat = (NU (sgW cs ls) W y)[x] := by
   rw [e2]; simp only [NU, List.getElem_map, List.getElem_range, Int.toNat_natCast]
  rw [es] at sg
  have st := aG (0 : Int) toI W 0 x (NU (sgW cs ls) W y) [] (by simp) hxr
  have l1 := Uc (0 : Int) toI W 0 x (NU (sgW cs ls) W y) [] (by simp) hx
  simp only [Nat.zero_mul, Nat.zero_add, List.length_nil, Nat.add_zero] at st l1
  have nx := hJ (W - (x + 1)) (n5 W T cs ls rs.length y ((x : Int) + 1)) _ ⟨x + 1, rfl, h, by simp, rfl⟩
  rw [← st] at nx
  generalize part 0 toI W 0 x (NU (sgW cs ls) W y) [] = X at *
  generalize toI (NU (sgW cs ls) W y)[x] = z at *
  have hX : x < X.length := by omega
  have qf : bp Tryz.prog 181 = true := by kernel_rfl
  simp [AY, h', hX, qf, h]
  refine ⟨by omega, by omega, ?_⟩
  refine AA sg ?_
  simp [df, hX, h]
  exact ⟨by omega, _, by omega, nx⟩
 ·have : x = W := by omega
  subst this
  rw [aF _ _ _ _ _ _ (by simp)]
  simp [AY, full]
  apply hend <;> rfl
set_option maxHeartbeats 2000000 in
theorem Sf (W T : Nat) (cs : List Bool) (ls : List Int) (hr : A0 W T cs = true) (hll : ls.length = cs.length) (hw : X4 ls) :
  SoundAt Tryz.prog Db [.agg [.v (.int .i64 W), .v (.int .i64 T), .sl 1 1 (AC cs)], rlF W T cs ls] (.v (tx (Ej 47 (Hq (sgW cs ls) W T)))) [.bot, .bot] := by
 refine AE (md := mdT) (ms := [false, false]) GD (by simp) ?_
 have hr' := hr
 simp only [A0, decide_eq_true_eq] at hr'
 obtain ⟨w1, w2, t1, t2, hl, _⟩ := hr'
 have hW6 : W ≤ 6 := by omega
 have hT6 : T ≤ 6 := by omega
 have hl' : cs.length = T * W := by
  have : (cs.length : Int) = ((T * W : Nat) : Int) := by rw [hl, Int.natCast_mul, Int.mul_comm]
  exact Int.ofNat.inj this
 have tot := TV (sgW cs ls) T (W := W)
 have hp : T * (W + 1) ≤ 6 * 7 := Nat.mul_le_mul hT6 (by omega)
 have jn := OW (Hq (sgW cs ls) W T) 47 (by simp; omega) (by omega)
 simp [Dc]
 refine ⟨by omega, ?_⟩
 refine AF (fun m E H => ∃ (n : Nat) (rs : List (List UInt8)), n = m ∧ n ≤ T ∧ rs ++ Hq (sgW cs ls) W n = Hq (sgW cs ls) W T ∧ E = rlE W T cs ls rs.length ((n : Int) - 1) ∧
  H = [some (.box [.v (.int .i64 W), .v (.int .i64 T), .sl 1 1 (AC cs)]), some (.arr 1 (txs rs))]) T ⟨T, [], by simp⟩ ?_
 rintro J hJ m E H ⟨n, rs, rfl, hn, ho, rfl, rfl⟩
 cases n with
 | zero =>
   have ho' : rs = Hq (sgW cs ls) W T := by simpa [Hq] using ho
   subst ho'
   rw [I3]
   have tk : List.take T (txs (Hq (sgW cs ls) W T)) = txs (Hq (sgW cs ls) W T) := List.take_of_length_le (by simp)
   simp [Az]
   refine AA jn ?_
   simp [tk]
 | succ n =>
   have la : rs.length ≤ 6 := by have := congrArg List.length ho; rw [List.length_append, I3, I3] at this; omega
   have e1 : ((n + 1 : Nat) : Int) - 1 = (n : Int) := by omega
   have w0 : (0 : Int) ≤ (W : Int) := by omega
   rw [e1]
   have nx := hJ n (rlE W T cs ls (rs ++ [NU (sgW cs ls) W n]).length ((n : Int) - 1)) _ ⟨n, rs ++ [NU (sgW cs ls) W n], rfl, by omega, by rw [← ho, Hq]; simp, rfl, rfl⟩
   rw [NS, Yt, List.length_append, List.length_singleton] at nx
   have body := n6 W T cs ls rs n hW6 hT6 (by omega) hl' hll hw
   simp [Az, w0]
   refine ⟨by omega, ?_⟩
   refine body _ ?_
   intro E g1 g2 g5 g6 g7
   have tk : List.take W (u8s ((NU (sgW cs ls) W n).map toI)) = u8s ((NU (sgW cs ls) W n).map toI) := List.take_of_length_le (by simp)
   have hst := gm (NU (sgW cs ls) W n)
   have hrw : W ≤ (NU (sgW cs ls) W n).length := by simp
   generalize NU (sgW cs ls) W n = row at *
   rw [List.map_map] at hst
   simp [g1, g2, g5, g6, g7, tk, hst, hrw, eR]
   exact ⟨by omega, by omega, _, by omega, nx⟩
theorem Uh (W T : Int) (cs : List Bool) (ls : List Int) (hr : A0 W T cs = true) (hy : AO W T cs ls = true) :
  SoundAt Tryz.prog NK [.agg [.v (.int .i64 W), .v (.int .i64 T), .sl 1 1 (AC cs)], .sl 1 1 (AB ls)] (.v (tx (Uu W T cs ls))) [.bot, .bot] := by
 have hr' := hr
 simp only [A0, decide_eq_true_eq] at hr'
 obtain ⟨w, rfl⟩ : ∃ w : Nat, W = w := ⟨W.toNat, by omega⟩
 obtain ⟨t, rfl⟩ : ∃ t : Nat, T = t := ⟨T.toNat, by omega⟩
 have hll : ls.length = cs.length := by simp only [AO, Bool.and_eq_true, decide_eq_true_eq] at hy; exact hy.1
 have hp2 : (w : Int) * t ≤ 36 := by
  have : w * t ≤ 6 * 6 := Nat.mul_le_mul (by omega) (by omega)
  have e : (w : Int) * t = ((w * t : Nat) : Int) := by simp
  omega
 have pv := LA w t cs ls (by omega) (by omega)
 rw [hr, hy] at pv
 have rt := Sf w t cs ls hr hll (X5 hy)
 refine AE (md := mdT) (ms := [false, false]) Uf (by simp) ?_
 rw [Uu]
 simp only [Int.toNat_natCast]
 simp [NL]
 refine AA pv ?_
 simp
 refine AA rt ?_
 simp
def eG (b : Bool) : List UInt8 := if b then [121, 101, 115] else [110, 111]
def okT (b : Bool) : List UInt8 := if b then [111, 107] else [110, 111]
def YV : List UInt8 := [110, 111, 110, 101]
def lz (W T : Int) (cs : List Bool) (ds ls : List Int) (ps : List (List Int)) (s : List UInt8) : List UInt8 :=
 if s = [115, 104, 111, 119] then Uu W T cs ls else
 if s = [100, 105, 103, 105, 116, 115] then TU W T cs ds else
 if s = [108, 101, 102, 116] then Q5 (Bg cs - 2 * Iz ls) else
 if s = [112, 97, 115, 116] then Q5 ps.length else
 if s = [115, 111, 108, 118, 101, 100] then eG (Ju cs ls) else
 if s = [100, 101, 97, 100] then eG (SE W T cs ds ls) else
 if s = [104, 105, 110, 116] then (if K7 W T cs ds ls < 0 then YV else CA (0, K7 W T cs ds ls, Nh W T cs ds ls)) else
 [119, 104, 97, 116]
def bR (W T : Int) (cs : List Bool) (ds ls : List Int) : List fO := if bD W T cs ds (BO cs) = true then dU ls (XS W T cs ds (BO cs)) else []
def DM (W T : Int) (cs : List Bool) (ds ls : List Int) (ps : List (List Int)) (s : List UInt8) : List Int × List (List Int) × List UInt8 :=
 if Ch s = true then ((doI W T cs ds ls ps (Ci s).1 (Ci s).2.1 (Ci s).2.2).2.1, (doI W T cs ds ls ps (Ci s).1 (Ci s).2.1 (Ci s).2.2).2.2, okT (doI W T cs ds ls ps (Ci s).1 (Ci s).2.1 (Ci s).2.2).1) else
 if s = [101, 110, 100] then ((kL W T cs ds ls ps (bR W T cs ds ls)).1, (kL W T cs ds ls ps (bR W T cs ds ls)).2.1, if bR W T cs ds ls = [] then YV else [111, 107]) else
 (ls, ps, lz W T cs ds ls ps s)
theorem ZT {W T : Int} {cs : List Bool} {ds ls : List Int} {ps : List (List Int)} (s : List UInt8) (h : Au W T cs ds ls ps = true) : Au W T cs ds (DM W T cs ds ls ps s).1 (DM W T cs ds ls ps s).2.1 = true := by
 unfold DM
 split
 ·exact fX _ _ _ h
 split
 ·exact ge _ _ _ h
 ·exact h
theorem di {s : List UInt8} (h : Ch s = true) : 0 ≤ (Ci s).2.1 ∧ (Ci s).2.1 ≤ 99 := by
 have := (TS h).2
 simp only [EY, Bool.and_eq_true, decide_eq_true_eq] at this
 exact this.1.2
@[simp] def mdl (f : Nat) : List Bool := if f = 65 ∨ f = Ac then [true, false] else []
theorem V4 (b : Bool) : SoundAt Tryz.prog V2 [.v (.bool b)] (.v (tx (eG b))) [.bot] := by
 refine AE (md := mdl) (ms := [false]) bK (by simp) ?_
 cases b <;> simp [V3, eG]
theorem jd (W T : Int) (cs : List Bool) (ds ls : List Int) (ps : List (List Int)) (s : List UInt8) (h : Au W T cs ds ls ps = true) (hs : s.length < 2 ^ 30) (hr : Ch s = true) :
  SoundAt Tryz.prog Ac [OA W T cs ds ls ps, .v (tx s)] (.v (tx (DM W T cs ds ls ps s).2.2)) [OA W T cs ds (DM W T cs ds ls ps s).1 (DM W T cs ds ls ps s).2.1, .bot] := by
 have rd := Ay s hs
 have dd := OT W T cs ds ls ps (Ci s).1 (Ci s).2.1 (Ci s).2.2 h (by have := di hr; omega)
 refine AE (md := mdl) (ms := [true, false]) An (by simp) ?_
 rw [hr] at rd
 simp only [DM, hr, if_true]
 simp only [Eu, A8] at rd
 generalize Ci s = d at *
 generalize doI W T cs ds ls ps d.1 d.2.1 d.2.2 = r at *
 obtain ⟨b, l2, p2⟩ := r
 have htl : (AB l2).take l2.length = AB l2 := AD l2
 have hto : (oss p2).take p2.length = oss p2 := List.take_of_length_le (by simp [oss])
 simp [Ai]
 refine AA rd ?_
 simp
 refine AA dd ?_
 cases b <;> simp [okT, htl, hto]
theorem V5 : Ch [101, 110, 100] = false := by decide
theorem XK : Ch [115, 104, 111, 119] = false := by decide
theorem Qm : Ch [100, 105, 103, 105, 116, 115] = false := by decide
theorem XL : Ch [108, 101, 102, 116] = false := by decide
theorem XM : Ch [112, 97, 115, 116] = false := by decide
theorem Qn : Ch [115, 111, 108, 118, 101, 100] = false := by decide
theorem XN : Ch [100, 101, 97, 100] = false := by decide
theorem XO : Ch [104, 105, 110, 116] = false := by decide
theorem CG {s : List UInt8} (h : Ch s = false) : Ci s = (0, 0, 0) := by simp [Ci, h]
theorem ZU {W T : Int} {cs : List Bool} {ds ls : List Int} {ps : List (List Int)} (h : Au W T cs ds ls ps = true) : lv W T cs ds ls ps = bR W T cs ds ls := by
 obtain ⟨hf, _, _⟩ := Ad h
 obtain ⟨hr, _, _, _⟩ := AR hf
 have eb : VX W T cs = BO cs := by simp [VX, hr]
 unfold lv bR
 rw [h, eb]
 rfl
theorem aH {W T : Int} {cs : List Bool} {ds ls : List Int} {ps : List (List Int)} (h : Au W T cs ds ls ps = true) : 0 ≤ (Bg cs : Int) - 2 * Iz ls := by
 obtain ⟨hf, _, _⟩ := Ad h
 obtain ⟨hr, _, hy, _⟩ := AR hf
 have := ZO hr hy
 omega
theorem fh (W T : Int) (cs : List Bool) (ds ls : List Int) (ps : List (List Int)) (h : Au W T cs ds ls ps = true) :
  SoundAt Tryz.prog Ac [OA W T cs ds ls ps, .v (tx [101, 110, 100])] (.v (tx (DM W T cs ds ls ps [101, 110, 100]).2.2)) [OA W T cs ds (DM W T cs ds ls ps [101, 110, 100]).1 (DM W T cs ds ls ps [101, 110, 100]).2.1, .bot] := by
 have rd := Ay [101, 110, 100] (by decide)
 have ed := Nk W T cs ds ls ps h
 have ee : (if bD W T cs ds (BO cs) = true then dU ls (XS W T cs ds (BO cs)) else []) = bR W T cs ds ls := rfl
 rw [ee] at ed
 rw [V5, CG V5] at rd
 simp only [Eu, A8] at rd
 simp only [DM, V5, if_true, Bool.false_eq_true, if_false]
 refine AE (md := mdl) (ms := [true, false]) An (by simp) ?_
 have hsp : ∀ d ∈ bR W T cs ds ls, d.2.1 ≤ 9223372036854775807 := by
  intro d hd
  unfold bR at hd
  split at hd
  ·rename_i hsb
   have := dZ hd
   obtain ⟨hf, _, _⟩ := Ad h
   obtain ⟨hr, _, _, _⟩ := AR hf
   have l36 := AZ hr
   have := (Rc h hsb).2.1
   omega
  ·simp at hd
 have hx72 : (bR W T cs ds ls).length ≤ 72 := by rw [← ZU h]; exact UQ W T cs ds ls ps
 generalize bR W T cs ds ls = xs at *
 have htl : (AB ls).take ls.length = AB ls := AD ls
 have hto : (oss ps).take ps.length = oss ps := List.take_of_length_le (by simp [oss])
 simp [Ai]
 refine AA rd ?_
 simp
 refine AA ed ?_
 simp
 refine AF (fun m E H => ∃ (i : Nat) (l : List Int) (p : List (List Int)) (n : Nat), m = xs.length - i ∧ i ≤ xs.length ∧ KW (lu W T cs ds) ls ps (xs.take i) = (l, p, n) ∧ Au W T cs ds l p = true ∧
  E = [(0, .lp 0 0 0 0), (7, .ls 3 1 0 xs.length), (26, .ls 3 1 0 xs.length), (27, .v (.int .i64 xs.length)), (28, .v (.int .i64 i)), (126, .lp 0 0 0 0)] ∧
  H = [some (.box [.v (.int .i64 W), .v (.int .i64 T), .ls 1 2 0 cs.length, .ls 1 3 0 ds.length, .ls 1 4 0 l.length, .ls 1 5 0 p.length]), some (.arr 3 (dsA xs)),
    some (.arr 1 (AC cs)), some (.arr 1 (AB ds)), some (.arr 1 (AB l)), some (.arr 1 (oss p))]) xs.length ⟨0, ls, ps, 0, by simp, by omega, by simp [KW], h, by simp, by simp⟩ ?_
 rintro J hJ m E H ⟨i, l, p, n, rfl, hi, hrr, hb, rfl, rfl⟩
 have htl : (AB l).take l.length = AB l := AD l
 have hto : (oss p).take p.length = oss p := List.take_of_length_le (by simp [oss])
 by_cases hlt : i < xs.length
 ·have hd := OT W T cs ds l p xs[i].1 xs[i].2.1 xs[i].2.2 hb (hsp _ (List.getElem_mem hlt))
  have hb2 := fX xs[i].1 xs[i].2.1 xs[i].2.2 hb
  have hr2 : KW (lu W T cs ds) ls ps (xs.take (i + 1)) = ((doI W T cs ds l p xs[i].1 xs[i].2.1 xs[i].2.2).2.1, (doI W T cs ds l p xs[i].1 xs[i].2.1 xs[i].2.2).2.2, n + if (doI W T cs ds l p xs[i].1 xs[i].2.1 xs[i].2.2).1 then 1 else 0) := by
   rw [List.take_succ_eq_append_getElem hlt, On, hrr]
  generalize doI W T cs ds l p xs[i].1 xs[i].2.1 xs[i].2.2 = r at *
  obtain ⟨b, l2, p2⟩ := r
  have htl2 : (AB l2).take l2.length = AB l2 := AD l2
  have hto2 : (oss p2).take p2.length = oss p2 := List.take_of_length_le (by simp [oss])
  simp only at hd hb2 hr2
  have hg := Z4 hlt
  simp [DL, hlt, hg, A8]
  refine AA hd ?_
  simp
  exact ⟨by omega, _, by omega, hJ _ _ _ ⟨i + 1, l2, p2, _, rfl, hlt, hr2, hb2, by simp, by simp⟩⟩
 ·have : i = xs.length := by omega
  subst this
  rw [List.take_length] at hrr
  have e : kL W T cs ds ls ps xs = (l, p, n) := hrr
  rw [e]
  by_cases hx : xs = []
  ·simp [DL, hx, htl, hto, YV]
  ·have hx0 : ¬ xs.length = 0 := fun e => hx (List.eq_nil_of_length_eq_zero e)
   simp [DL, hx, hx0, htl, hto]
theorem dk (W T : Int) (cs : List Bool) (ds ls : List Int) (ps : List (List Int)) (h : Au W T cs ds ls ps = true) :
  SoundAt Tryz.prog Ac [OA W T cs ds ls ps, .v (tx [115, 104, 111, 119])] (.v (tx (Uu W T cs ls))) [OA W T cs ds ls ps, .bot] := by
 obtain ⟨hf, h20, hpf⟩ := Ad h
 obtain ⟨hr, hdg, hy, ho⟩ := AR hf
 have rd := Ay [115, 104, 111, 119] (by decide)
 have lt := Uh W T cs ls hr hy
 rw [XK, CG XK] at rd
 simp only [Eu, A8] at rd
 generalize Uu W T cs ls = t at *
 have htl : (AB ls).take ls.length = AB ls := AD ls
 have hto : (oss ps).take ps.length = oss ps := List.take_of_length_le (by simp [oss])
 refine AE (md := mdl) (ms := [true, false]) An (by simp) ?_
 simp [Ai]
 refine AA rd ?_
 simp
 (repeat' first | omega | apply And.intro) <;>
 ·refine AA lt ?_
  simp [htl, hto]
theorem ZV (W T : Int) (cs : List Bool) (ds ls : List Int) (ps : List (List Int)) (h : Au W T cs ds ls ps = true) :
  SoundAt Tryz.prog Ac [OA W T cs ds ls ps, .v (tx [100, 105, 103, 105, 116, 115])] (.v (tx (TU W T cs ds))) [OA W T cs ds ls ps, .bot] := by
 obtain ⟨hf, h20, hpf⟩ := Ad h
 obtain ⟨hr, hdg, hy, ho⟩ := AR hf
 obtain ⟨l36, ld, ll⟩ := Dq hf
 have rd := Ay [100, 105, 103, 105, 116, 115] (by decide)
 obtain ⟨w, rfl⟩ : ∃ w : Nat, W = w := ⟨W.toNat, by have := hr; simp only [A0, decide_eq_true_eq] at this; omega⟩
 obtain ⟨t, rfl⟩ : ∃ t : Nat, T = t := ⟨T.toNat, by have := hr; simp only [A0, decide_eq_true_eq] at this; omega⟩
 have pt := Rg w t cs ds (by omega) (by omega)
 rw [Qm, CG Qm] at rd
 simp only [Eu, A8] at rd
 have htl : (AB ls).take ls.length = AB ls := AD ls
 have hto : (oss ps).take ps.length = oss ps := List.take_of_length_le (by simp [oss])
 generalize TU w t cs ds = x at *
 refine AE (md := mdl) (ms := [true, false]) An (by simp) ?_
 simp [Ai]
 refine AA rd ?_
 simp
 (repeat' first | omega | apply And.intro) <;>
 ·refine AA pt ?_
  simp [htl, hto]
theorem dl (W T : Int) (cs : List Bool) (ds ls : List Int) (ps : List (List Int)) (h : Au W T cs ds ls ps = true) :
  SoundAt Tryz.prog Ac [OA W T cs ds ls ps, .v (tx [108, 101, 102, 116])] (.v (tx (Q5 (Bg cs - 2 * Iz ls)))) [OA W T cs ds ls ps, .bot] := by
 obtain ⟨hf, h20, hpf⟩ := Ad h
 obtain ⟨hr, hdg, hy, ho⟩ := AR hf
 obtain ⟨l36, ld, ll⟩ := Dq hf
 have rd := Ay [108, 101, 102, 116] (by decide)
 have lf := SN W T cs ds ls ps (by omega) (by omega)
 have h0 := aH h
 have h1 := Ho cs
 have it := J7 ((Bg cs : Int) - 2 * Iz ls) h0 (by omega)
 rw [XL, CG XL] at rd
 simp only [Eu, A8] at rd
 have htl : (AB ls).take ls.length = AB ls := AD ls
 have hto : (oss ps).take ps.length = oss ps := List.take_of_length_le (by simp [oss])
 refine AE (md := mdl) (ms := [true, false]) An (by simp) ?_
 simp [Ai]
 refine AA rd ?_
 simp
 refine AA lf ?_
 simp
 refine AA it ?_
 simp [htl, hto]
theorem dm (W T : Int) (cs : List Bool) (ds ls : List Int) (ps : List (List Int)) (h : Au W T cs ds ls ps = true) :
  SoundAt Tryz.prog Ac [OA W T cs ds ls ps, .v (tx [112, 97, 115, 116])] (.v (tx (Q5 (ps.length : Int)))) [OA W T cs ds ls ps, .bot] := by
 obtain ⟨hf, h20, hpf⟩ := Ad h
 obtain ⟨hr, hdg, hy, ho⟩ := AR hf
 obtain ⟨l36, ld, ll⟩ := Dq hf
 have rd := Ay [112, 97, 115, 116] (by decide)
 have it := J7 (ps.length : Int) (by omega) (by omega)
 rw [XM, CG XM] at rd
 simp only [Eu, A8] at rd
 have htl : (AB ls).take ls.length = AB ls := AD ls
 have hto : (oss ps).take ps.length = oss ps := List.take_of_length_le (by simp [oss])
 refine AE (md := mdl) (ms := [true, false]) An (by simp) ?_
 simp [Ai]
 refine AA rd ?_
 simp
 refine AA it ?_
 simp [htl, hto]
theorem ZW (W T : Int) (cs : List Bool) (ds ls : List Int) (ps : List (List Int)) (h : Au W T cs ds ls ps = true) :
  SoundAt Tryz.prog Ac [OA W T cs ds ls ps, .v (tx [115, 111, 108, 118, 101, 100])] (.v (tx (eG (Ju cs ls)))) [OA W T cs ds ls ps, .bot] := by
 obtain ⟨hf, h20, hpf⟩ := Ad h
 obtain ⟨hr, hdg, hy, ho⟩ := AR hf
 obtain ⟨l36, ld, ll⟩ := Dq hf
 have rd := Ay [115, 111, 108, 118, 101, 100] (by decide)
 have fu := Ps W T cs ls (by omega) ll
 have ye := V4 (Ju cs ls)
 rw [Qn, CG Qn] at rd
 simp only [Eu, A8] at rd
 have htl : (AB ls).take ls.length = AB ls := AD ls
 have hto : (oss ps).take ps.length = oss ps := List.take_of_length_le (by simp [oss])
 refine AE (md := mdl) (ms := [true, false]) An (by simp) ?_
 simp [Ai]
 refine AA rd ?_
 simp
 (repeat' first | omega | apply And.intro) <;>
 ·refine AA fu ?_
  simp
  refine AA ye ?_
  simp [htl, hto]
theorem dn (W T : Int) (cs : List Bool) (ds ls : List Int) (ps : List (List Int)) (h : Au W T cs ds ls ps = true) :
  SoundAt Tryz.prog Ac [OA W T cs ds ls ps, .v (tx [100, 101, 97, 100])] (.v (tx (eG (SE W T cs ds ls)))) [OA W T cs ds ls ps, .bot] := by
 obtain ⟨hf, h20, hpf⟩ := Ad h
 obtain ⟨hr, hdg, hy, ho⟩ := AR hf
 obtain ⟨l36, ld, ll⟩ := Dq hf
 have rd := Ay [100, 101, 97, 100] (by decide)
 have fu := Y9 W T cs ds ls (by omega) (by omega) (by omega)
 have ye := V4 (SE W T cs ds ls)
 rw [XN, CG XN] at rd
 simp only [Eu, A8] at rd
 have htl : (AB ls).take ls.length = AB ls := AD ls
 have hto : (oss ps).take ps.length = oss ps := List.take_of_length_le (by simp [oss])
 refine AE (md := mdl) (ms := [true, false]) An (by simp) ?_
 simp [Ai]
 refine AA rd ?_
 simp
 (repeat' first | omega | apply And.intro) <;>
 ·refine AA fu ?_
  simp
  refine AA ye ?_
  simp [htl, hto]
theorem dp (W T : Int) (cs : List Bool) (ds ls : List Int) (ps : List (List Int)) (h : Au W T cs ds ls ps = true) :
  SoundAt Tryz.prog Ac [OA W T cs ds ls ps, .v (tx [104, 105, 110, 116])] (.v (tx (if K7 W T cs ds ls < 0 then YV else CA (0, K7 W T cs ds ls, Nh W T cs ds ls)))) [OA W T cs ds ls ps, .bot] := by
 obtain ⟨hf, h20, hpf⟩ := Ad h
 obtain ⟨hr, hdg, hy, ho⟩ := AR hf
 obtain ⟨l36, ld, ll⟩ := Dq hf
 have rd := Ay [104, 105, 110, 116] (by decide)
 have hi := XB W T cs ds ls (by omega) (by omega) (by omega)
 have dt := NE (0, K7 W T cs ds ls, Nh W T cs ds ls)
 simp only [A8] at dt
 rw [XO, CG XO] at rd
 simp only [Eu, A8] at rd
 have htl : (AB ls).take ls.length = AB ls := AD ls
 have hto : (oss ps).take ps.length = oss ps := List.take_of_length_le (by simp [oss])
 generalize K7 W T cs ds ls = c at *
 generalize Nh W T cs ds ls = x at *
 refine AE (md := mdl) (ms := [true, false]) An (by simp) ?_
 simp [Ai]
 refine AA rd ?_
 simp
 (repeat' first | omega | apply And.intro) <;>
 ·refine AA hi ?_
  by_cases hc : c < 0
  ·simp [hc, htl, hto, YV]
  ·simp [hc]
   refine AA dt ?_
   simp [htl, hto]
theorem Sg (W T : Int) (cs : List Bool) (ds ls : List Int) (ps : List (List Int)) (s : List UInt8) (h : Au W T cs ds ls ps = true) (hs : s.length < 2 ^ 30) :
  SoundAt Tryz.prog Ac [OA W T cs ds ls ps, .v (tx s)] (.v (tx (DM W T cs ds ls ps s).2.2)) [OA W T cs ds (DM W T cs ds ls ps s).1 (DM W T cs ds ls ps s).2.1, .bot] := by
 cases hr : Ch s with
 | true => exact jd W T cs ds ls ps s h hs hr
 | false =>
 by_cases h0 : s = [101, 110, 100]
 ·subst h0; exact fh W T cs ds ls ps h
 have e : DM W T cs ds ls ps s = (ls, ps, lz W T cs ds ls ps s) := by simp [DM, hr, h0]
 rw [e]
 simp only [lz]
 by_cases h1 : s = [115, 104, 111, 119]
 ·subst h1; exact dk W T cs ds ls ps h
 rw [if_neg h1]
 by_cases h2 : s = [100, 105, 103, 105, 116, 115]
 ·subst h2; exact ZV W T cs ds ls ps h
 rw [if_neg h2]
 by_cases h3 : s = [108, 101, 102, 116]
 ·subst h3; exact dl W T cs ds ls ps h
 rw [if_neg h3]
 by_cases h4 : s = [112, 97, 115, 116]
 ·subst h4; exact dm W T cs ds ls ps h
 rw [if_neg h4]
 by_cases h5 : s = [115, 111, 108, 118, 101, 100]
 ·subst h5; exact ZW W T cs ds ls ps h
 rw [if_neg h5]
 by_cases h6 : s = [100, 101, 97, 100]
 ·subst h6; exact dn W T cs ds ls ps h
 rw [if_neg h6]
 by_cases h7 : s = [104, 105, 110, 116]
 ·subst h7; exact dp W T cs ds ls ps h
 rw [if_neg h7]
 have rd := Ay s hs
 rw [hr, CG hr] at rd
 simp only [Eu, A8] at rd
 have htl : (AB ls).take ls.length = AB ls := AD ls
 have hto : (oss ps).take ps.length = oss ps := List.take_of_length_le (by simp [oss])
 refine AE (md := mdl) (ms := [true, false]) An (by simp) ?_
 simp [Ai]
 refine AA rd ?_
 simp [h0, h1, h2, h3, h4, h5, h6, h7, htl, hto]
theorem J8 (b : Bool) (s : List UInt8) : SoundAt Tryz.prog OX [.v (.bool b), .v (tx s)] (.v (tx (if b then s else [110, 111]))) [.bot, .bot] := by
 refine AE (md := mdl) (ms := [false, false]) Va (by simp) ?_
 cases b <;> simp [OY]
theorem Am {W T : Int} {cs : List Bool} {ds ls : List Int} {ps : List (List Int)} (h : Au W T cs ds ls ps = true) : SoundAt Tryz.prog Gh [bkA W T cs ds ls ps] (bkO W T cs ds ls ps) [.bot] := by
 obtain ⟨hf, h20, hpf⟩ := Ad h
 obtain ⟨hr, hdg, hy, ho⟩ := AR hf
 obtain ⟨l36, ld, ll⟩ := Dq hf
 have hnew := OS W T cs ds (by omega) (by omega)
 have enew : jS W T cs ds = bkO W T cs ds (BO cs) [] := by simp [jS, hr, hdg]
 rw [enew] at hnew
 exact ON OO W T cs ds ls (BO cs) ps (by omega) (by omega) (by omega) (by omega) (fun p hp => by have := Dq (hpf p hp); omega) (by simp [BO]; omega) hnew
def dq (mk : List Int → List (List Int) → AV) (no : AV) (W T : Int) (cs : List Bool) (ds ls : List Int) (ps : List (List Int)) (s : List UInt8) : AV :=
 if Au W T cs ds ls ps = true then .tup [mk (DM W T cs ds ls ps s).1 (DM W T cs ds ls ps s).2.1, .v (tx (DM W T cs ds ls ps s).2.2)] else .tup [no, .v (tx [])]
theorem Gc {W T : Int} {cs : List Bool} {ds ls : List Int} {ps : List (List Int)} (h : Au W T cs ds ls ps = true) : cs.length ≤ 36 ∧ ds.length ≤ 36 ∧ ls.length ≤ 36 ∧ ps.length ≤ 20 ∧ (∀ p ∈ ps, p.length ≤ 40) ∧
  SoundAt Tryz.prog G8 [bkA W T cs ds ls ps] (.v (.bool true)) [.bot] := by
 obtain ⟨hf, h20, hpf⟩ := Ad h
 obtain ⟨l36, ld, ll⟩ := Dq hf
 have hpl : ∀ p ∈ ps, p.length ≤ 40 := fun p hp => by have := Dq (hpf p hp); omega
 have val := Bm W T cs ds ls ps (by omega) (by omega) (by omega) (by omega) (fun p hp => by have := hpl p hp; omega)
 rw [h] at val
 exact ⟨l36, by omega, by omega, h20, hpl, val⟩
theorem oR (W T : Int) (cs : List Bool) (ds ls : List Int) (ps : List (List Int)) (s : List UInt8) (h : Au W T cs ds ls ps = true) (hs : s.length < 2 ^ 30) (hr : Ch s = true) :
  SoundAt Tryz.prog Ak [bkA W T cs ds ls ps, .v (tx s)] (.tup [bkO W T cs ds (DM W T cs ds ls ps s).1 (DM W T cs ds ls ps s).2.1, .v (tx (DM W T cs ds ls ps s).2.2)]) [.bot, .bot] := by
 obtain ⟨hc, hd, hl, hb, hp, val⟩ := Gc h
 have rd := Ax s hs
 have cp := Am h
 have dd := Qg W T cs ds ls ps (Ci s).1 (Ci s).2.1 (Ci s).2.2 (by omega) (by omega) (by omega) (by omega) hp
 rw [h] at dd
 simp only [if_true, Bool.true_and] at dd
 have wd := J8 (doI W T cs ds ls ps (Ci s).1 (Ci s).2.1 (Ci s).2.2).1 [111, 107]
 refine AE (md := mdl) (ms := [false, false]) Al (by simp) ?_
 rw [hr] at rd
 simp only [DM, hr, if_true]
 simp only [Eu, A8] at rd
 generalize Ci s = d at *
 generalize doI W T cs ds ls ps d.1 d.2.1 d.2.2 = r at *
 obtain ⟨b, l2, p2⟩ := r
 have htl : (AB l2).take l2.length = AB l2 := AD l2
 have hto : (oss p2).take p2.length = oss p2 := List.take_of_length_le (by simp [oss])
 simp [Ah]
 refine AA val ?_
 simp
 refine AA rd ?_
 simp
 refine AA cp ?_
 simp
 refine AA dd ?_
 simp
 (repeat' first | omega | apply And.intro) <;>
 ·refine AA wd ?_
  cases b <;> simp [htl, hto, okT]
theorem l0 (W T : Int) (cs : List Bool) (ds ls : List Int) (ps : List (List Int)) (h : Au W T cs ds ls ps = true) :
  SoundAt Tryz.prog Ak [bkA W T cs ds ls ps, .v (tx [115, 104, 111, 119])] (.tup [bkO W T cs ds ls ps, .v (tx (Uu W T cs ls))]) [.bot, .bot] := by
 obtain ⟨hc, hd, hl, hb, hp, val⟩ := Gc h
 obtain ⟨hf, h20, hpf⟩ := Ad h
 obtain ⟨hr, hdg, hy, ho⟩ := AR hf
 have rd := Ax [115, 104, 111, 119] (by decide)
 have cp := Am h
 have lt := Ug W T cs ls hr hy
 rw [XK, CG XK] at rd
 simp only [Eu, A8] at rd
 have htl : (AB ls).take ls.length = AB ls := AD ls
 have hto : (oss ps).take ps.length = oss ps := List.take_of_length_le (by simp [oss])
 generalize Uu W T cs ls = x at *
 refine AE (md := mdl) (ms := [false, false]) Al (by simp) ?_
 simp [Ah]
 refine AA val ?_
 simp
 refine AA rd ?_
 simp
 refine AA cp ?_
 simp
 (repeat' first | omega | apply And.intro) <;>
 ·refine AA lt ?_
  simp [htl, hto]
theorem fi (W T : Int) (cs : List Bool) (ds ls : List Int) (ps : List (List Int)) (h : Au W T cs ds ls ps = true) :
  SoundAt Tryz.prog Ak [bkA W T cs ds ls ps, .v (tx [100, 105, 103, 105, 116, 115])] (.tup [bkO W T cs ds ls ps, .v (tx (TU W T cs ds))]) [.bot, .bot] := by
 obtain ⟨hc, hd, hl, hb, hp, val⟩ := Gc h
 obtain ⟨hf, h20, hpf⟩ := Ad h
 obtain ⟨hr, hdg, hy, ho⟩ := AR hf
 have rd := Ax [100, 105, 103, 105, 116, 115] (by decide)
 have cp := Am h
 obtain ⟨w, rfl⟩ : ∃ w : Nat, W = w := ⟨W.toNat, by have := hr; simp only [A0, decide_eq_true_eq] at this; omega⟩
 obtain ⟨t, rfl⟩ : ∃ t : Nat, T = t := ⟨T.toNat, by have := hr; simp only [A0, decide_eq_true_eq] at this; omega⟩
 have pt := Rf w t cs ds (by omega) (by omega) (by have := hr; simp only [A0, decide_eq_true_eq] at this; omega)
 rw [Qm, CG Qm] at rd
 simp only [Eu, A8] at rd
 have htl : (AB ls).take ls.length = AB ls := AD ls
 have hto : (oss ps).take ps.length = oss ps := List.take_of_length_le (by simp [oss])
 generalize TU w t cs ds = x at *
 refine AE (md := mdl) (ms := [false, false]) Al (by simp) ?_
 simp [Ah]
 refine AA val ?_
 simp
 refine AA rd ?_
 simp
 refine AA cp ?_
 simp
 (repeat' first | omega | apply And.intro) <;>
 ·refine AA pt ?_
  simp [htl, hto]
theorem l6 (W T : Int) (cs : List Bool) (ds ls : List Int) (ps : List (List Int)) (h : Au W T cs ds ls ps = true) :
  SoundAt Tryz.prog Ak [bkA W T cs ds ls ps, .v (tx [108, 101, 102, 116])] (.tup [bkO W T cs ds ls ps, .v (tx (Q5 (Bg cs - 2 * Iz ls)))]) [.bot, .bot] := by
 obtain ⟨hc, hd, hl, hb, hp, val⟩ := Gc h
 obtain ⟨hf, h20, hpf⟩ := Ad h
 obtain ⟨hr, hdg, hy, ho⟩ := AR hf
 have rd := Ax [108, 101, 102, 116] (by decide)
 have cp := Am h
 have lf := SO W T cs ds ls ps (by omega) (by omega) (by omega) (by omega) (fun p hp1 => by have := hp p hp1; omega)
 simp only [co, h, if_true] at lf
 have h0 := aH h
 have h1 := Ho cs
 have it := Fq ((Bg cs : Int) - 2 * Iz ls) h0 (by omega)
 rw [XL, CG XL] at rd
 simp only [Eu, A8] at rd
 have htl : (AB ls).take ls.length = AB ls := AD ls
 have hto : (oss ps).take ps.length = oss ps := List.take_of_length_le (by simp [oss])
 refine AE (md := mdl) (ms := [false, false]) Al (by simp) ?_
 simp [Ah]
 refine AA val ?_
 simp
 refine AA rd ?_
 simp
 refine AA cp ?_
 simp
 (repeat' first | omega | apply And.intro) <;>
 ·refine AA lf ?_
  simp
  (repeat' first | omega | apply And.intro) <;>
  ·refine AA it ?_
   simp [htl, hto]
theorem l7 (W T : Int) (cs : List Bool) (ds ls : List Int) (ps : List (List Int)) (h : Au W T cs ds ls ps = true) :
  SoundAt Tryz.prog Ak [bkA W T cs ds ls ps, .v (tx [112, 97, 115, 116])] (.tup [bkO W T cs ds ls ps, .v (tx (Q5 (ps.length : Int)))]) [.bot, .bot] := by
 obtain ⟨hc, hd, hl, hb, hp, val⟩ := Gc h
 obtain ⟨hf, h20, hpf⟩ := Ad h
 obtain ⟨hr, hdg, hy, ho⟩ := AR hf
 have rd := Ax [112, 97, 115, 116] (by decide)
 have cp := Am h
 have it := Fq (ps.length : Int) (by omega) (by omega)
 rw [XM, CG XM] at rd
 simp only [Eu, A8] at rd
 have htl : (AB ls).take ls.length = AB ls := AD ls
 have hto : (oss ps).take ps.length = oss ps := List.take_of_length_le (by simp [oss])
 refine AE (md := mdl) (ms := [false, false]) Al (by simp) ?_
 simp [Ah]
 refine AA val ?_
 simp
 refine AA rd ?_
 simp
 refine AA cp ?_
 simp
 (repeat' first | omega | apply And.intro) <;>
 ·refine AA it ?_
  simp [htl, hto]
theorem fj (W T : Int) (cs : List Bool) (ds ls : List Int) (ps : List (List Int)) (h : Au W T cs ds ls ps = true) :
  SoundAt Tryz.prog Ak [bkA W T cs ds ls ps, .v (tx [115, 111, 108, 118, 101, 100])] (.tup [bkO W T cs ds ls ps, .v (tx (eG (Ju cs ls)))]) [.bot, .bot] := by
 obtain ⟨hc, hd, hl, hb, hp, val⟩ := Gc h
 obtain ⟨hf, h20, hpf⟩ := Ad h
 obtain ⟨hr, hdg, hy, ho⟩ := AR hf
 have rd := Ax [115, 111, 108, 118, 101, 100] (by decide)
 have cp := Am h
 have fu := RH W T cs ds ls ps (by omega) (by omega) (by omega) (by omega) (fun p hp1 => by have := hp p hp1; omega)
 simp only [fP, h, Bool.true_and] at fu
 have ye := J8 (Ju cs ls) [121, 101, 115]
 rw [Qn, CG Qn] at rd
 simp only [Eu, A8] at rd
 have htl : (AB ls).take ls.length = AB ls := AD ls
 have hto : (oss ps).take ps.length = oss ps := List.take_of_length_le (by simp [oss])
 refine AE (md := mdl) (ms := [false, false]) Al (by simp) ?_
 simp [Ah]
 refine AA val ?_
 simp
 refine AA rd ?_
 simp
 refine AA cp ?_
 simp
 (repeat' first | omega | apply And.intro) <;>
 ·refine AA fu ?_
  simp
  (repeat' first | omega | apply And.intro) <;>
  ·refine AA ye ?_
   simp [htl, hto, eG]
set_option maxHeartbeats 4000000 in
theorem l8 (W T : Int) (cs : List Bool) (ds ls : List Int) (ps : List (List Int)) (h : Au W T cs ds ls ps = true) :
  SoundAt Tryz.prog Ak [bkA W T cs ds ls ps, .v (tx [100, 101, 97, 100])] (.tup [bkO W T cs ds ls ps, .v (tx (eG (SE W T cs ds ls)))]) [.bot, .bot] := by
 obtain ⟨hc, hd, hl, hb, hp, val⟩ := Gc h
 obtain ⟨hf, h20, hpf⟩ := Ad h
 obtain ⟨hr, hdg, hy, ho⟩ := AR hf
 have rd := Ax [100, 101, 97, 100] (by decide)
 have cp := Am h
 have fu := ZA W T cs ds ls (by omega) (by omega) (by omega)
 have ye := J8 (SE W T cs ds ls) [121, 101, 115]
 rw [XN, CG XN] at rd
 simp only [Eu, A8] at rd
 have htl : (AB ls).take ls.length = AB ls := AD ls
 have hto : (oss ps).take ps.length = oss ps := List.take_of_length_le (by simp [oss])
 refine AE (md := mdl) (ms := [false, false]) Al (by simp) ?_
 simp [Ah]
 refine AA val ?_
 simp
 refine AA rd ?_
 simp
 refine AA cp ?_
 simp
 (repeat' first | omega | apply And.intro) <;>
 ·refine AA fu ?_
  simp
  (repeat' first | omega | apply And.intro) <;>
  ·refine AA ye ?_
   simp [htl, hto, eG]
set_option maxHeartbeats 4000000 in
theorem l9 (W T : Int) (cs : List Bool) (ds ls : List Int) (ps : List (List Int)) (h : Au W T cs ds ls ps = true) :
  SoundAt Tryz.prog Ak [bkA W T cs ds ls ps, .v (tx [104, 105, 110, 116])] (.tup [bkO W T cs ds ls ps, .v (tx (if K7 W T cs ds ls < 0 then YV else CA (0, K7 W T cs ds ls, Nh W T cs ds ls)))]) [.bot, .bot] := by
 obtain ⟨hc, hd, hl, hb, hp, val⟩ := Gc h
 obtain ⟨hf, h20, hpf⟩ := Ad h
 obtain ⟨hr, hdg, hy, ho⟩ := AR hf
 have rd := Ax [104, 105, 110, 116] (by decide)
 have cp := Am h
 have hi := XC W T cs ds ls (by omega) (by omega) (by omega)
 have dt := ND (0, K7 W T cs ds ls, Nh W T cs ds ls)
 simp only [A8] at dt
 rw [XO, CG XO] at rd
 simp only [Eu, A8] at rd
 have htl : (AB ls).take ls.length = AB ls := AD ls
 have hto : (oss ps).take ps.length = oss ps := List.take_of_length_le (by simp [oss])
 generalize K7 W T cs ds ls = c at *
 generalize Nh W T cs ds ls = x at *
 refine AE (md := mdl) (ms := [false, false]) Al (by simp) ?_
 simp [Ah]
 refine AA val ?_
 simp
 refine AA rd ?_
 simp
 refine AA cp ?_
 simp
 (repeat' first | omega | apply And.intro) <;>
 ·refine AA hi ?_
  by_cases hc : c < 0
  ·simp [hc, htl, hto, YV]
  ·simp [hc]
   (repeat' first | omega | apply And.intro) <;>
   ·refine AA dt ?_
    simp [htl, hto]
set_option maxHeartbeats 4000000 in
theorem n7 (W T : Int) (cs : List Bool) (ds ls : List Int) (ps : List (List Int)) (h : Au W T cs ds ls ps = true) :
  SoundAt Tryz.prog Ak [bkA W T cs ds ls ps, .v (tx [101, 110, 100])] (.tup [bkO W T cs ds (DM W T cs ds ls ps [101, 110, 100]).1 (DM W T cs ds ls ps [101, 110, 100]).2.1, .v (tx (DM W T cs ds ls ps [101, 110, 100]).2.2)]) [.bot, .bot] := by
 obtain ⟨hc, hd, hl, hb, hp, val⟩ := Gc h
 have rd := Ax [101, 110, 100] (by decide)
 have cp := Am h
 have ed := UO W T cs ds ls ps (by omega) (by omega) (by omega) (by omega) (fun p hp1 => by have := hp p hp1; omega)
 rw [ZU h] at ed
 have hx72 : (bR W T cs ds ls).length ≤ 72 := by rw [← ZU h]; exact UQ W T cs ds ls ps
 rw [V5, CG V5] at rd
 simp only [Eu, A8] at rd
 simp only [DM, V5, if_true, Bool.false_eq_true, if_false]
 refine AE (md := mdl) (ms := [false, false]) Al (by simp) ?_
 generalize bR W T cs ds ls = xs at *
 simp [Ah]
 refine AA val ?_
 simp
 refine AA rd ?_
 simp
 refine AA cp ?_
 simp
 refine AA ed ?_
 simp
 refine AF (fun m E H => ∃ (i : Nat) (l : List Int) (p : List (List Int)) (n : Nat), m = xs.length - i ∧ i ≤ xs.length ∧ KW (lu W T cs ds) ls ps (xs.take i) = (l, p, n) ∧ Au W T cs ds l p = true ∧
  E = [(4, .lp 0 0 0 0), (8, .lp 0 1 0 0), (11, .ls 3 2 0 xs.length), (12, .v (.int .i64 i))] ∧
  H = [some (.box [.v (.int .i64 0), .v (.int .i64 0), .os 1 [], .os 1 [], .os 1 [], .os 1 []]), some (.box [.v (.int .i64 W), .v (.int .i64 T), .ls 1 3 0 cs.length, .ls 1 4 0 ds.length, .ls 1 5 0 l.length, .ls 1 6 0 p.length]), some (.arr 3 (dsA xs)),
    some (.arr 1 (AC cs)), some (.arr 1 (AB ds)), some (.arr 1 (AB l)), some (.arr 1 (oss p))]) xs.length ⟨0, ls, ps, 0, by simp, by omega, by simp [KW], h, by simp, by simp⟩ ?_
 rintro J hJ m E H ⟨i, l, p, n, rfl, hi, hrr, hbk, rfl, rfl⟩
 have htl : (AB l).take l.length = AB l := AD l
 have hto : (oss p).take p.length = oss p := List.take_of_length_le (by simp [oss])
 by_cases hlt : i < xs.length
 ·obtain ⟨hc2, hd2, hl2, hb2, hp2, _⟩ := Gc hbk
  have hdo := Qg W T cs ds l p xs[i].1 xs[i].2.1 xs[i].2.2 (by omega) (by omega) (by omega) (by omega) hp2
  rw [hbk] at hdo
  simp only [if_true, Bool.true_and] at hdo
  have hbk2 := fX xs[i].1 xs[i].2.1 xs[i].2.2 hbk
  have hr2 : KW (lu W T cs ds) ls ps (xs.take (i + 1)) = ((doI W T cs ds l p xs[i].1 xs[i].2.1 xs[i].2.2).2.1, (doI W T cs ds l p xs[i].1 xs[i].2.1 xs[i].2.2).2.2, n + if (doI W T cs ds l p xs[i].1 xs[i].2.1 xs[i].2.2).1 then 1 else 0) := by
   rw [List.take_succ_eq_append_getElem hlt, On, hrr]
  generalize doI W T cs ds l p xs[i].1 xs[i].2.1 xs[i].2.2 = r at *
  obtain ⟨b, l2, p2⟩ := r
  have htl2 : (AB l2).take l2.length = AB l2 := AD l2
  have hto2 : (oss p2).take p2.length = oss p2 := List.take_of_length_le (by simp [oss])
  simp only at hdo hbk2 hr2
  have hg := Z4 hlt
  simp [Dh, hlt, hg, A8]
  (repeat' first | omega | apply And.intro) <;>
  ·refine AA hdo ?_
   simp
   exact ⟨by omega, _, by omega, hJ _ _ _ ⟨i + 1, l2, p2, _, rfl, hlt, hr2, hbk2, by simp, by simp⟩⟩
 ·have : i = xs.length := by omega
  subst this
  rw [List.take_length] at hrr
  have e : kL W T cs ds ls ps xs = (l, p, n) := hrr
  rw [e]
  by_cases hx : xs = []
  ·simp [Dh, hx, htl, hto, YV]
  ·have hx0 : ¬ xs.length = 0 := fun e => hx (List.eq_nil_of_length_eq_zero e)
   simp [Dh, hx, hx0, htl, hto]
set_option maxHeartbeats 4000000 in
theorem Ui (W T : Int) (cs : List Bool) (ds ls : List Int) (ps : List (List Int)) (s : List UInt8) (hc : cs.length ≤ 2 ^ 30) (hd : ds.length ≤ 2 ^ 30) (hl : ls.length ≤ 2 ^ 30) (hb : ps.length ≤ 2 ^ 30) (hp : ∀ p ∈ ps, p.length ≤ 2 ^ 30) (hs : s.length < 2 ^ 30) :
  SoundAt Tryz.prog Ak [bkA W T cs ds ls ps, .v (tx s)] (dq (bkO W T cs ds) (bkO 0 0 [] [] [] []) W T cs ds ls ps s) [.bot, .bot] := by
 unfold dq
 cases h : Au W T cs ds ls ps with
 | false =>
   have hv := Bm W T cs ds ls ps (by omega) (by omega) (by omega) (by omega) (fun p h => by have := hp p h; omega)
   rw [h] at hv
   refine AE (md := mdl) (ms := [false, false]) Al (by simp) ?_
   simp [Ah]
   refine AA hv ?_
   simp
 | true =>
 rw [if_pos rfl]
 cases hr : Ch s with
 | true => exact oR W T cs ds ls ps s h hs hr
 | false =>
 by_cases h0 : s = [101, 110, 100]
 ·subst h0; exact n7 W T cs ds ls ps h
 have e : DM W T cs ds ls ps s = (ls, ps, lz W T cs ds ls ps s) := by simp [DM, hr, h0]
 rw [e]
 simp only [lz]
 by_cases h1 : s = [115, 104, 111, 119]
 ·subst h1; exact l0 W T cs ds ls ps h
 rw [if_neg h1]
 by_cases h2 : s = [100, 105, 103, 105, 116, 115]
 ·subst h2; exact fi W T cs ds ls ps h
 rw [if_neg h2]
 by_cases h3 : s = [108, 101, 102, 116]
 ·subst h3; exact l6 W T cs ds ls ps h
 rw [if_neg h3]
 by_cases h4 : s = [112, 97, 115, 116]
 ·subst h4; exact l7 W T cs ds ls ps h
 rw [if_neg h4]
 by_cases h5 : s = [115, 111, 108, 118, 101, 100]
 ·subst h5; exact fj W T cs ds ls ps h
 rw [if_neg h5]
 by_cases h6 : s = [100, 101, 97, 100]
 ·subst h6; exact l8 W T cs ds ls ps h
 rw [if_neg h6]
 by_cases h7 : s = [104, 105, 110, 116]
 ·subst h7; exact l9 W T cs ds ls ps h
 rw [if_neg h7]
 obtain ⟨_, _, _, _, _, val⟩ := Gc h
 have rd := Ax s hs
 have cp := Am h
 rw [hr, CG hr] at rd
 simp only [Eu, A8] at rd
 have htl : (AB ls).take ls.length = AB ls := AD ls
 have hto : (oss ps).take ps.length = oss ps := List.take_of_length_le (by simp [oss])
 refine AE (md := mdl) (ms := [false, false]) Al (by simp) ?_
 simp [Ah]
 refine AA val ?_
 simp
 refine AA rd ?_
 simp
 refine AA cp ?_
 simp [h0, h1, h2, h3, h4, h5, h6, h7, htl, hto]
end Go.Proofs.Dev
