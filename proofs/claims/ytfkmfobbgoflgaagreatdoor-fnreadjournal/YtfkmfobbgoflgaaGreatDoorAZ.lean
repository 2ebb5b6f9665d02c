/- Contracts of the functions of the program over slots and rows, each proved against the program itself; no condition beyond those that each theorem names. -/
import Derived.Test.YtfkmfobbgoflgaaGreatDoorAI
import Derived.Test.YtfkmfobbgoflgaaGreatDoorProg
import Derived.Test.YtfkmfobbgoflgaaGreatDoorAY
import Derived.Test.YtfkmfobbgoflgaaGreatDoorAJ
import Derived.Test.YtfkmfobbgoflgaaGreatDoorAV
import Derived.Test.YtfkmfobbgoflgaaGreatDoorAW
import Derived.Test.YtfkmfobbgoflgaaGreatDoorAX
import Derived.Test.YtfkmfobbgoflgaaGreatDoorAM
import Derived.Test.YtfkmfobbgoflgaaGreatDoorAQ
import Derived.Test.YtfkmfobbgoflgaaGreatDoorAN
set_option linter.unusedSimpArgs false
set_option linter.unusedVariables false
set_option maxRecDepth 100000
namespace Go.Proofs.Dev
@[simp] abbrev K8 : Nat := 181
def Gr : ACode := .seq (.reg [.o 4 .mv [.c (.v (.int .u8 (0)))]]) <| .seq (.seq (.reg [.f 5 2 1, .l 6 5, .m 7 0, .o 8 (.iadr 1) [.t 6, .t 7], .l 9 8, .o 10 (.un .not) [.t 9]]) <| .cond (.t 10) ( .seq (.reg [.o 4 .mv [.c (.v (.int .u8 (46)))]]) <| .ret) ( .skip)) <| .seq (.reg [.l 11 2, .m 12 0, .o 13 (.iadr 1) [.t 11, .t 12], .l 14 13, .o 15 .sidx [.c (.v (.string ⟨#[35, 101, 110, 119, 115]⟩)), .t 14], .m 4 15]) <| .ret
theorem Rg : cFn Tryz.prog K8 16 [.t 4] Gr := ⟨Tryz.f181, _, Tryz.func181, rfl, by kernel_rfl, by kernel_rfl, by kernel_rfl, by kernel_rfl⟩
@[simp] abbrev Nd : Nat := 128
def Nf : ACode := .seq (.reg [.o 2 .box [.t 0], .o 3 .box [.t 1], .o 4 .mv [.c (.v (.string ⟨#[]⟩))]]) <| .seq (.seq (.reg [.la 5 3 2, .l 6 3, .o 7 (.call 179 []) [.t 5, .t 6], .o 8 (.un .not) [.t 7]]) <| .cond (.t 8) ( .seq (.reg [.o 4 .mv [.c (.v (.string ⟨#[]⟩))]]) <| .ret) ( .skip)) <| .seq (.reg [.la 9 3 2, .o 10 (.mkfn 181) [.t 2, .t 3], .o 11 (.call 180 []) [.t 9, .t 10], .m 4 11]) <| .ret
theorem Ui : cFn Tryz.prog Nd 12 [.t 4] Nf := ⟨Tryz.f128, _, Tryz.func128, rfl, by kernel_rfl, by kernel_rfl, by kernel_rfl, by kernel_rfl⟩
@[simp] abbrev WC : Nat := 131
def WD : ACode := .seq (.reg [.o 2 .mv [.c (.v (.string ⟨#[]⟩))]]) <| .seq (.seq (.reg [.m 3 0]) <| .cond (.t 3) ( .seq (.reg [.o 2 .mv [.c (.v (.string ⟨#[121, 101, 115]⟩))]]) <| .ret) ( .skip)) <| .seq (.reg [.o 2 .mv [.c (.v (.string ⟨#[110, 111]⟩))]]) <| .ret
theorem bh : cFn Tryz.prog WC 4 [.t 2] WD := ⟨Tryz.f131, _, Tryz.func131, rfl, by kernel_rfl, by kernel_rfl, by kernel_rfl, by kernel_rfl⟩
@[simp] abbrev Af : Nat := 61
def DM : ACode := .seq (.reg [.o 29 (.bin .lss 0) [.t 28, .t 27]]) <| .seq (.cond (.t 29) ( .skip) ( .exit 1)) <| .seq (.block 2 ( .seq (.reg [.o 30 (.iadr 3) [.t 26, .t 28], .la 31 3 30, .o 9 (.alloc dz) [], .s (.store 3) [.t 9, .t 31]]) <| .reg [.m 32 0, .la 33 3 9, .o 34 (.call 65 []) [.t 32, .t 33]])) <| .reg [.o 35 (.bin .add 0) [.t 28, .k 1], .m 28 35]
abbrev BR : Plan := .al (.o 117 (.call 133 []) [.t 108, .t 112, .t 116]) ( .take (.m 104 117) <| .take (.e 118 0 104) <| .take (.e 119 1 104) <| .take (.m 10 118) <| .take (.m 11 119) <| .done)
abbrev BS : Plan := .al (.o 100 (.call 132 []) [.t 91, .t 95, .t 99]) ( .al (.o 101 (.call 131 []) [.t 100]) ( .take (.m 4 101) <| .done))
abbrev I1 : Plan := .al (.o 84 (.call 101 []) [.t 79, .t 83]) ( .al (.o 85 (.call 131 []) [.t 84]) ( .take (.m 4 85) <| .done))
abbrev I2 : Plan := .al (.o 49 (.call 128 []) [.t 44, .t 48]) ( .take (.m 4 49) <| .done)
abbrev I3 : Plan := .al (.o 60 (.call 129 []) [.t 55, .t 59]) ( .take (.m 4 60) <| .done)
def Am : ACode := .seq (.reg [.o 4 .mv [.c (.v (.string ⟨#[]⟩))]]) <| .seq (.seq (.reg [.m 13 1, .o 14 (.call 52 []) [.t 13], .m 12 14, .e 15 0 12, .e 16 1 12, .o 5 (.alloc dz) [], .s (.store 3) [.t 5, .t 15], .m 6 16]) <| .seq (.reg [.m 17 6]) <| .cond (.t 17) ( .seq (.seq (.reg [.m 18 0, .la 19 3 5, .o 20 (.call 65 []) [.t 18, .t 19]]) <| .cond (.t 20) ( .seq (.reg [.o 4 .mv [.c (.v (.string ⟨#[111, 107]⟩))]]) <| .ret) ( .skip)) <| .seq (.reg [.o 4 .mv [.c (.v (.string ⟨#[110, 111]⟩))]]) <| .ret) ( .skip)) <| .seq (.seq (.reg [.m 21 1]) <| .block 0 ( .seq (.reg [.o 23 (.bin .eql 1) [.t 21, .c (.v (.string ⟨#[101, 110, 100]⟩))], .m 22 23]) <| .cond (.t 22) ( .seq (.reg [.m 24 0, .o 25 (.call 127 []) [.t 24], .m 7 25]) <| .seq (.seq (.reg [.m 26 7, .n 27 26, .o 28 .mv [.k 0]]) <| .block 1 ( .loop [(7, 3), (26, 3)] [0, 7, 26, 27, 28, 126] DM)) <| .seq (.seq (.reg [.m 36 7, .n 37 36, .o 38 (.bin .eql 0) [.t 37, .k 0]]) <| .cond (.t 38) ( .seq (.reg [.o 4 .mv [.c (.v (.string ⟨#[110, 111, 110, 101]⟩))]]) <| .ret) ( .skip)) <| .seq (.reg [.o 4 .mv [.c (.v (.string ⟨#[111, 107]⟩))]]) <| .ret) ( .seq (.reg [.o 40 (.bin .eql 1) [.t 21, .c (.v (.string ⟨#[115, 104, 111, 119]⟩))], .m 39 40]) <| .cond (.t 39) ( .seq (.draw ( .take (.m 41 0) <| .take (.o 42 .nilck [.t 41]) <| .take (.f 43 0 42) <| .take (.m 45 0) <| .take (.o 46 .nilck [.t 45]) <| .take (.f 47 4 46) <| .alt (.la 44 3 43) ( .al (.l 48 47) I2) <| .al (.l 48 47) ( .al (.la 44 3 43) I2))) <| .ret) ( .seq (.reg [.o 51 (.bin .eql 1) [.t 21, .c (.v (.string ⟨#[100, 105, 103, 105, 116, 115]⟩))], .m 50 51]) <| .cond (.t 50) ( .seq (.draw ( .take (.m 52 0) <| .take (.o 53 .nilck [.t 52]) <| .take (.f 54 0 53) <| .take (.m 56 0) <| .take (.o 57 .nilck [.t 56]) <| .take (.f 58 3 57) <| .alt (.la 55 3 54) ( .al (.l 59 58) I3) <| .al (.l 59 58) ( .al (.la 55 3 54) I3))) <| .ret) ( .seq (.reg [.o 62 (.bin .eql 1) [.t 21, .c (.v (.string ⟨#[108, 101, 102, 116]⟩))], .m 61 62]) <| .cond (.t 61) ( .seq (.reg [.m 63 0, .o 64 (.call 130 []) [.t 63], .o 65 (.call 64 []) [.t 64], .m 4 65]) <| .ret) ( .seq (.reg [.o 67 (.bin .eql 1) [.t 21, .c (.v (.string ⟨#[112, 97, 115, 116]⟩))], .m 66 67]) <| .cond (.t 66) ( .seq (.reg [.m 68 0, .o 69 .nilck [.t 68], .f 70 5 69, .l 71 70, .n 72 71, .o 73 (.call 64 []) [.t 72], .m 4 73]) <| .ret) ( .seq (.reg [.o 75 (.bin .eql 1) [.t 21, .c (.v (.string ⟨#[115, 111, 108, 118, 101, 100]⟩))], .m 74 75]) <| .cond (.t 74) ( .seq (.draw ( .take (.m 76 0) <| .take (.o 77 .nilck [.t 76]) <| .take (.f 78 0 77) <| .take (.m 80 0) <| .take (.o 81 .nilck [.t 80]) <| .take (.f 82 4 81) <| .alt (.la 79 3 78) ( .al (.l 83 82) I1) <| .al (.l 83 82) ( .al (.la 79 3 78) I1))) <| .ret) ( .seq (.reg [.o 87 (.bin .eql 1) [.t 21, .c (.v (.string ⟨#[100, 101, 97, 100]⟩))], .m 86 87]) <| .cond (.t 86) ( .seq (.draw ( .take (.m 88 0) <| .take (.o 89 .nilck [.t 88]) <| .take (.f 90 0 89) <| .take (.m 92 0) <| .take (.o 93 .nilck [.t 92]) <| .take (.f 94 3 93) <| .take (.m 96 0) <| .take (.o 97 .nilck [.t 96]) <| .take (.f 98 4 97) <| .alt (.la 91 3 90) ( .alt (.l 95 94) ( .al (.l 99 98) BS) <| .al (.l 99 98) ( .al (.l 95 94) BS)) <| .alt (.l 95 94) ( .alt (.la 91 3 90) ( .al (.l 99 98) BS) <| .al (.l 99 98) ( .al (.la 91 3 90) BS)) <| .al (.l 99 98) ( .alt (.la 91 3 90) ( .al (.l 95 94) BS) <| .al (.l 95 94) ( .al (.la 91 3 90) BS)))) <| .ret) ( .seq (.reg [.o 103 (.bin .eql 1) [.t 21, .c (.v (.string ⟨#[104, 105, 110, 116]⟩))], .m 102 103]) <| .cond (.t 102) ( .seq (.draw ( .take (.m 105 0) <| .take (.o 106 .nilck [.t 105]) <| .take (.f 107 0 106) <| .take (.m 109 0) <| .take (.o 110 .nilck [.t 109]) <| .take (.f 111 3 110) <| .take (.m 113 0) <| .take (.o 114 .nilck [.t 113]) <| .take (.f 115 4 114) <| .alt (.la 108 3 107) ( .alt (.l 112 111) ( .al (.l 116 115) BR) <| .al (.l 116 115) ( .al (.l 112 111) BR)) <| .alt (.l 112 111) ( .alt (.la 108 3 107) ( .al (.l 116 115) BR) <| .al (.l 116 115) ( .al (.la 108 3 107) BR)) <| .al (.l 116 115) ( .alt (.la 108 3 107) ( .al (.l 112 111) BR) <| .al (.l 112 111) ( .al (.la 108 3 107) BR)))) <| .seq (.seq (.reg [.m 120 10, .o 121 (.bin .lss 0) [.t 120, .k 0]]) <| .cond (.t 121) ( .seq (.reg [.o 4 .mv [.c (.v (.string ⟨#[110, 111, 110, 101]⟩))]]) <| .ret) ( .skip)) <| .seq (.reg [.m 122 10, .m 123 11, .o 124 (.build dz [(0, 1), (1, 1), (2, 1)]) [.k 0, .t 122, .t 123], .o 125 (.call 20 []) [.t 124], .m 4 125]) <| .ret) ( .skip)))))))))) <| .seq (.reg [.o 4 .mv [.c (.v (.string ⟨#[119, 104, 97, 116]⟩))]]) <| .ret
theorem Au : cFn Tryz.prog Af 126 [.t 4] Am := ⟨Tryz.f61, _, Tryz.func61, rfl, by kernel_rfl, by kernel_rfl, by kernel_rfl, by kernel_rfl⟩
@[simp] abbrev Ng : Nat := 19
def I4 : ACode := .seq (.reg [.o 2 .box [.t 0], .o 4 (.alloc bz) [], .o 5 .mv [.c (.v (.string ⟨#[]⟩))]]) <| .seq (.seq (.reg [.la 8 6 2, .o 9 (.call 38 []) [.t 8], .o 10 (.un .not) [.t 9]]) <| .cond (.t 10) ( .seq (.reg [.o 11 (.build bz []) [], .s (.store 6) [.t 4, .t 11], .o 5 .mv [.c (.v (.string ⟨#[]⟩))]]) <| .ret) ( .skip)) <| .seq (.reg [.la 12 6 2, .o 13 (.call 60 []) [.t 12], .o 6 (.alloc bz) [], .s (.store 6) [.t 6, .t 13]]) <| .seq (.reg [.m 14 1, .o 15 (.call 61 []) [.t 6, .t 14], .m 7 15]) <| .seq (.reg [.la 16 6 6, .m 17 7, .s (.store 6) [.t 4, .t 16], .m 5 17]) <| .ret
theorem Uj : cFn Tryz.prog Ng 18 [.c 4 true 6, .t 5] I4 := ⟨Tryz.f19, _, Tryz.func19, rfl, by kernel_rfl, by kernel_rfl, by kernel_rfl, by kernel_rfl⟩
open Go.RowKit
theorem bi (W T : Int) (cs : List Bool) (ls : List Int) (k : Int) (h0 : 0 ≤ k) (h1 : k < ls.length) (hl : ls.length = cs.length) (hw : Z8 ls) :
  SoundAt Tryz.prog K8 [.v (.int .i64 k), .vp 1 [.v (.int .i64 W), .v (.int .i64 T), .sl 1 1 (AD cs)] 0, .vp 1 [.sl 1 1 (AC ls)] 0] (.v (.int .u8 (toI (sgW cs ls k.toNat)))) [.bot, .bot, .bot] := by
 refine AJ (md := mdT) (ms := [false, false, false]) Rg (by simp) ?_
 obtain ⟨w0, w1⟩ := hw k h0 h1
 have hk : k < (cs.length : Int) := by omega
 have ek : ((k.toNat : Nat) : Int) = k := by omega
 unfold sgW
 rw [ek]
 cases hb : atb cs k with
 | false => simp [Gr, h0, h1, hk, hb, toI]
 | true =>
   have hc5 : ati ls k = 0 ∨ ati ls k = 1 ∨ ati ls k = 2 ∨ ati ls k = 3 ∨ ati ls k = 4 := by omega
   rcases hc5 with h5 | h5 | h5 | h5 | h5 <;> simp [Gr, h0, h1, hk, hb, h5, pr, toI, Yh]
abbrev rlF (W T : Int) (cs : List Bool) (ls : List Int) : AV := .fn 181 [.vp 1 [.v (.int .i64 W), .v (.int .i64 T), .sl 1 1 (AD cs)] 0, .vp 1 [.sl 1 1 (AC ls)] 0]
abbrev rlE (W T : Int) (cs : List Bool) (ls : List Int) (k : Nat) (y : Int) : ES := [(1, rlF W T cs ls), (2, .lp 0 0 0 0), (5, .ls 1 1 0 k), (6, .v (.int .i64 y))]
abbrev pZ (W T : Nat) (cs : List Bool) (ls : List Int) (k : Nat) (y x : Int) : ES := [(1, rlF W T cs ls), (2, .lp 0 0 0 0), (5, .ls 1 1 0 k), (6, .v (.int .i64 y)), (7, .ls 1 2 0 W), (20, .v (.int .i64 W)), (21, .v (.int .i64 x))]
set_option maxHeartbeats 2000000 in
theorem pa (W T : Nat) (cs : List Bool) (ls : List Int) (rs : List (List UInt8)) (y : Nat) (hW : W ≤ 6) (hT : T ≤ 6) (hy : y < T) (hl : cs.length = T * W) (hll : ls.length = cs.length) (hw : Z8 ls) (Qc : AExit → ES → AM → Prop)
  (hend : ∀ E, get E 1 = rlF W T cs ls → get E 2 = .lp 0 0 0 0 → get E 5 = .ls 1 1 0 rs.length → get E 6 = .v (.int .i64 y) → get E 7 = .ls 1 2 0 W →
   Qc (.exit 2) E [some (.box [.v (.int .i64 W), .v (.int .i64 T), .sl 1 1 (AD cs)]), some (.arr 1 (txs rs)), some (.arr 1 (u8s ((Uz (sgW cs ls) W y).map toI)))]) :
  CH [(5, 1), (7, 1)] [1, 2, 5, 6, 7, 20, 21] (awp Tryz.prog mdT Ac) Qc (pZ W T cs ls rs.length y 0) [some (.box [.v (.int .i64 W), .v (.int .i64 T), .sl 1 1 (AD cs)]), some (.arr 1 (txs rs)), some (.arr 1 (List.replicate W (.v (.int .u8 0))))] := by
 rw [ep]
 refine AH (fun m E H => ∃ x : Nat, m = W - x ∧ x ≤ W ∧ E = pZ W T cs ls rs.length y x ∧ H = [some (.box [.v (.int .i64 W), .v (.int .i64 T), .sl 1 1 (AD cs)]), some (.arr 1 (txs rs)), some (.arr 1 (u8s (part 0 toI W 0 x (Uz (sgW cs ls) W y) [])))]) W ⟨0, by simp [YY, full]⟩ ?_
 rintro J hJ m E H ⟨x, rfl, hx, rfl, rfl⟩
 by_cases h : x < W
 ·have h' : (x : Int) < (W : Int) := by omega
  have hxr : x < (Uz (sgW cs ls) W y).length := by simp [h]
  have hc := dC (T := T) hy h
  have hp : T * W ≤ 6 * 6 := Nat.mul_le_mul hT hW
  have e1 : (y : Int) * (W : Int) = ((y * W : Nat) : Int) := by simp
  have q0 : (0 : Int) ≤ (y : Int) * (W : Int) := by rw [e1]; omega
  have q1 : (y : Int) * (W : Int) ≤ 36 := by rw [e1]; omega
  have q2 : ((y : Int) * (W : Int) + (x : Int)) < (ls.length : Int) := by rw [e1]; omega
  have e2 : ((y : Int) * (W : Int) + (x : Int)) = ((y * W + x : Nat) : Int) := by rw [Int.natCast_add, e1]
  have sg := bi W T cs ls ((y : Int) * (W : Int) + (x : Int)) (by omega) q2 hll hw
  have es : sgW cs ls ((y : Int) * (W : Int) + (x : Int)).toNat = (Uz (sgW cs ls) W y)[x] := by
   rw [e2]; simp only [Uz, List.getElem_map, List.getElem_range, Int.toNat_natCast]
  rw [es] at sg
  have st := aX (0 : Int) toI W 0 x (Uz (sgW cs ls) W y) [] (by simp) hxr
  have l1 := Ug (0 : Int) toI W 0 x (Uz (sgW cs ls) W y) [] (by simp) hx
  simp only [Nat.zero_mul, Nat.zero_add, List.length_nil, Nat.add_zero] at st l1
  have nx := hJ (W - (x + 1)) (pZ W T cs ls rs.length y ((x : Int) + 1)) _ ⟨x + 1, rfl, h, by simp, rfl⟩
  rw [← st] at nx
  generalize part 0 toI W 0 x (Uz (sgW cs ls) W y) [] = X at *
  generalize toI (Uz (sgW cs ls) W y)[x] = z at *
  have hX : x < X.length := by omega
  have qf : cQ Tryz.prog 181 = true := by kernel_rfl
  simp [Ac, h', hX, qf, h]
  refine ⟨by omega, by omega, ?_⟩
  refine AA sg ?_
  simp [eo, hX, h]
  exact ⟨by omega, _, by omega, nx⟩
 ·have : x = W := by omega
  subst this
  rw [aW _ _ _ _ _ _ (by simp)]
  simp [Ac, full]
  apply hend <;> rfl
set_option maxHeartbeats 2000000 in
theorem Sl (W T : Nat) (cs : List Bool) (ls : List Int) (hr : A3 W T cs = true) (hll : ls.length = cs.length) (hw : Z8 ls) :
  SoundAt Tryz.prog Da [.agg [.v (.int .i64 W), .v (.int .i64 T), .sl 1 1 (AD cs)], rlF W T cs ls] (.v (tx (I9 47 (MN (sgW cs ls) W T)))) [.bot, .bot] := by
 refine AJ (md := mdT) (ms := [false, false]) GU (by simp) ?_
 have hr' := hr
 simp only [A3, decide_eq_true_eq] at hr'
 obtain ⟨w1, w2, t1, t2, hl, _⟩ := hr'
 have hW6 : W ≤ 6 := by omega
 have hT6 : T ≤ 6 := by omega
 have hl' : cs.length = T * W := by
  have : (cs.length : Int) = ((T * W : Nat) : Int) := by rw [hl, Int.natCast_mul, Int.mul_comm]
  exact Int.ofNat.inj this
 have tot := X4 (sgW cs ls) T (W := W)
 have hp : T * (W + 1) ≤ 6 * 7 := Nat.mul_le_mul hT6 (by omega)
 have jn := Oi (MN (sgW cs ls) W T) 47 (by simp; omega) (by omega)
 simp [Db]
 refine ⟨by omega, ?_⟩
 refine AH (fun m E H => ∃ (n : Nat) (rs : List (List UInt8)), n = m ∧ n ≤ T ∧ rs ++ MN (sgW cs ls) W n = MN (sgW cs ls) W T ∧ E = rlE W T cs ls rs.length ((n : Int) - 1) ∧
  H = [some (.box [.v (.int .i64 W), .v (.int .i64 T), .sl 1 1 (AD cs)]), some (.arr 1 (txs rs))]) T ⟨T, [], by simp⟩ ?_
 rintro J hJ m E H ⟨n, rs, rfl, hn, ho, rfl, rfl⟩
 cases n with
 | zero =>
   have ho' : rs = MN (sgW cs ls) W T := by simpa [MN] using ho
   subst ho'
   rw [JD]
   have tk : List.take T (txs (MN (sgW cs ls) W T)) = txs (MN (sgW cs ls) W T) := List.take_of_length_le (by simp)
   simp [A7]
   refine AA jn ?_
   simp [tk]
 | succ n =>
   have la : rs.length ≤ 6 := by have := congrArg List.length ho; rw [List.length_append, JD, JD] at this; omega
   have e1 : ((n + 1 : Nat) : Int) - 1 = (n : Int) := by omega
   have w0 : (0 : Int) ≤ (W : Int) := by omega
   rw [e1]
   have nx := hJ n (rlE W T cs ls (rs ++ [Uz (sgW cs ls) W n]).length ((n : Int) - 1)) _ ⟨n, rs ++ [Uz (sgW cs ls) W n], rfl, by omega, by rw [← ho, MN]; simp, rfl, rfl⟩
   rw [Nn, Yw, List.length_append, List.length_singleton] at nx
   have body := pa W T cs ls rs n hW6 hT6 (by omega) hl' hll hw
   simp [A7, w0]
   refine ⟨by omega, ?_⟩
   refine body _ ?_
   intro E g1 g2 g5 g6 g7
   have tk : List.take W (u8s ((Uz (sgW cs ls) W n).map toI)) = u8s ((Uz (sgW cs ls) W n).map toI) := List.take_of_length_le (by simp)
   have hst := jE (Uz (sgW cs ls) W n)
   have hrw : W ≤ (Uz (sgW cs ls) W n).length := by simp
   generalize Uz (sgW cs ls) W n = row at *
   rw [List.map_map] at hst
   simp [g1, g2, g5, g6, g7, tk, hst, hrw, iD]
   exact ⟨by omega, by omega, _, by omega, nx⟩
theorem Uk (W T : Int) (cs : List Bool) (ls : List Int) (hr : A3 W T cs = true) (hy : AU W T cs ls = true) :
  SoundAt Tryz.prog Nd [.agg [.v (.int .i64 W), .v (.int .i64 T), .sl 1 1 (AD cs)], .sl 1 1 (AC ls)] (.v (tx (dD W T cs ls))) [.bot, .bot] := by
 have hr' := hr
 simp only [A3, decide_eq_true_eq] at hr'
 obtain ⟨w, rfl⟩ : ∃ w : Nat, W = w := ⟨W.toNat, by omega⟩
 obtain ⟨t, rfl⟩ : ∃ t : Nat, T = t := ⟨T.toNat, by omega⟩
 have hll : ls.length = cs.length := by simp only [AU, Bool.and_eq_true, decide_eq_true_eq] at hy; exact hy.1
 have hp2 : (w : Int) * t ≤ 36 := by
  have : w * t ≤ 6 * 6 := Nat.mul_le_mul (by omega) (by omega)
  have e : (w : Int) * t = ((w * t : Nat) : Int) := by simp
  omega
 have pv := LS w t cs ls (by omega) (by omega)
 rw [hr, hy] at pv
 have rt := Sl w t cs ls hr hll (dE hy)
 refine AJ (md := mdT) (ms := [false, false]) Ui (by simp) ?_
 rw [dD]
 simp only [Int.toNat_natCast]
 simp [Nf]
 refine AA pv ?_
 simp
 refine AA rt ?_
 simp
def l9 (b : Bool) : List UInt8 := if b then [121, 101, 115] else [110, 111]
def okT (b : Bool) : List UInt8 := if b then [111, 107] else [110, 111]
def eu : List UInt8 := [110, 111, 110, 101]
def pd (W T : Int) (cs : List Bool) (ds ls : List Int) (ps : List (List Int)) (s : List UInt8) : List UInt8 :=
 if s = [115, 104, 111, 119] then dD W T cs ls else
 if s = [100, 105, 103, 105, 116, 115] then bI W T cs ds else
 if s = [108, 101, 102, 116] then R7 (BH cs - 2 * Kl ls) else
 if s = [112, 97, 115, 116] then R7 ps.length else
 if s = [115, 111, 108, 118, 101, 100] then l9 (LH cs ls) else
 if s = [100, 101, 97, 100] then l9 (bM W T cs ds ls) else
 if s = [104, 105, 110, 116] then (if VA W T cs ds ls < 0 then eu else Az (0, VA W T cs ds ls, YE W T cs ds ls)) else
 [119, 104, 97, 116]
def fX (W T : Int) (cs : List Bool) (ds ls : List Int) : List Tu := if gn W T cs ds (A5 cs) = true then gt ls (aQ W T cs ds (A5 cs)) else []
def La (W T : Int) (cs : List Bool) (ds ls : List Int) (ps : List (List Int)) (s : List UInt8) : List Int × List (List Int) × List UInt8 :=
 if Bo s = true then ((doI W T cs ds ls ps (Cc s).1 (Cc s).2.1 (Cc s).2.2).2.1, (doI W T cs ds ls ps (Cc s).1 (Cc s).2.1 (Cc s).2.2).2.2, okT (doI W T cs ds ls ps (Cc s).1 (Cc s).2.1 (Cc s).2.2).1) else
 if s = [101, 110, 100] then ((km W T cs ds ls ps (fX W T cs ds ls)).1, (km W T cs ds ls ps (fX W T cs ds ls)).2.1, if fX W T cs ds ls = [] then eu else [111, 107]) else
 (ls, ps, pd W T cs ds ls ps s)
theorem ew {s : List UInt8} (h : Bo s = true) : 0 ≤ (Cc s).2.1 ∧ (Cc s).2.1 ≤ 99 := by
 have := (Pc h).2
 simp only [Bq, Bool.and_eq_true, decide_eq_true_eq] at this
 exact this.1.2
@[simp] def mdl (f : Nat) : List Bool := if f = 65 ∨ f = Af then [true, false] else []
theorem WE (b : Bool) : SoundAt Tryz.prog WC [.v (.bool b)] (.v (tx (l9 b))) [.bot] := by
 refine AJ (md := mdl) (ms := [false]) bh (by simp) ?_
 cases b <;> simp [WD, l9]
theorem ky (W T : Int) (cs : List Bool) (ds ls : List Int) (ps : List (List Int)) (s : List UInt8) (h : Bw W T cs ds ls ps = true) (hs : s.length < 2 ^ 30) (hr : Bo s = true) :
  SoundAt Tryz.prog Af [Nr W T cs ds ls ps, .v (tx s)] (.v (tx (La W T cs ds ls ps s).2.2)) [Nr W T cs ds (La W T cs ds ls ps s).1 (La W T cs ds ls ps s).2.1, .bot] := by
 have rd := Al s hs
 have dd := KP W T cs ds ls ps (Cc s).1 (Cc s).2.1 (Cc s).2.2 h (by have := ew hr; omega)
 refine AJ (md := mdl) (ms := [true, false]) Au (by simp) ?_
 rw [hr] at rd
 simp only [La, hr, if_true]
 simp only [Gp, Ag] at rd
 generalize Cc s = d at *
 generalize doI W T cs ds ls ps d.1 d.2.1 d.2.2 = r at *
 obtain ⟨b, l2, p2⟩ := r
 have htl : (AC l2).take l2.length = AC l2 := AG l2
 have hto : (oss p2).take p2.length = oss p2 := List.take_of_length_le (by simp [oss])
 simp [Am]
 refine AA rd ?_
 simp
 refine AA dd ?_
 cases b <;> simp [okT, htl, hto]
theorem ez : Bo [101, 110, 100] = false := by decide
theorem fA : Bo [115, 104, 111, 119] = false := by decide
theorem Ya : Bo [100, 105, 103, 105, 116, 115] = false := by decide
theorem fB : Bo [108, 101, 102, 116] = false := by decide
theorem fC : Bo [112, 97, 115, 116] = false := by decide
theorem Yb : Bo [115, 111, 108, 118, 101, 100] = false := by decide
theorem fD : Bo [100, 101, 97, 100] = false := by decide
theorem fF : Bo [104, 105, 110, 116] = false := by decide
theorem H5 {s : List UInt8} (h : Bo s = false) : Cc s = (0, 0, 0) := by simp [Cc, h]
theorem kz {W T : Int} {cs : List Bool} {ds ls : List Int} {ps : List (List Int)} (h : Bw W T cs ds ls ps = true) : oa W T cs ds ls ps = fX W T cs ds ls := by
 obtain ⟨hf, _, _⟩ := A6 h
 obtain ⟨hr, _, _, _⟩ := Aw hf
 have eb : YR W T cs = A5 cs := by simp [YR, hr]
 unfold oa fX
 rw [h, eb]
 rfl
theorem g8 {W T : Int} {cs : List Bool} {ds ls : List Int} {ps : List (List Int)} (h : Bw W T cs ds ls ps = true) : 0 ≤ (BH cs : Int) - 2 * Kl ls := by
 obtain ⟨hf, _, _⟩ := A6 h
 obtain ⟨hr, _, hy, _⟩ := Aw hf
 have := ZV hr hy
 omega
theorem g9 (W T : Int) (cs : List Bool) (ds ls : List Int) (ps : List (List Int)) (h : Bw W T cs ds ls ps = true) :
  SoundAt Tryz.prog Af [Nr W T cs ds ls ps, .v (tx [101, 110, 100])] (.v (tx (La W T cs ds ls ps [101, 110, 100]).2.2)) [Nr W T cs ds (La W T cs ds ls ps [101, 110, 100]).1 (La W T cs ds ls ps [101, 110, 100]).2.1, .bot] := by
 have rd := Al [101, 110, 100] (by decide)
 have ed := N3 W T cs ds ls ps h
 have ee : (if gn W T cs ds (A5 cs) = true then gt ls (aQ W T cs ds (A5 cs)) else []) = fX W T cs ds ls := rfl
 rw [ee] at ed
 rw [ez, H5 ez] at rd
 simp only [Gp, Ag] at rd
 simp only [La, ez, if_true, Bool.false_eq_true, if_false]
 refine AJ (md := mdl) (ms := [true, false]) Au (by simp) ?_
 have hsp : ∀ d ∈ fX W T cs ds ls, d.2.1 ≤ 9223372036854775807 := by
  intro d hd
  unfold fX at hd
  split at hd
  ·rename_i hsb
   have := eZ hd
   obtain ⟨hf, _, _⟩ := A6 h
   obtain ⟨hr, _, _, _⟩ := Aw hf
   have l36 := AZ hr
   have := (XP h hsb).2.1
   omega
  ·simp at hd
 have hx72 : (fX W T cs ds ls).length ≤ 72 := by rw [← kz h]; exact ZW W T cs ds ls ps
 generalize fX W T cs ds ls = xs at *
 have htl : (AC ls).take ls.length = AC ls := AG ls
 have hto : (oss ps).take ps.length = oss ps := List.take_of_length_le (by simp [oss])
 simp [Am]
 refine AA rd ?_
 simp
 refine AA ed ?_
 simp
 refine AH (fun m E H => ∃ (i : Nat) (l : List Int) (p : List (List Int)) (n : Nat), m = xs.length - i ∧ i ≤ xs.length ∧ Fi (l8 W T cs ds) ls ps (xs.take i) = (l, p, n) ∧ Bw W T cs ds l p = true ∧
  E = [(0, .lp 0 0 0 0), (7, .ls 3 1 0 xs.length), (26, .ls 3 1 0 xs.length), (27, .v (.int .i64 xs.length)), (28, .v (.int .i64 i)), (126, .lp 0 0 0 0)] ∧
  H = [some (.box [.v (.int .i64 W), .v (.int .i64 T), .ls 1 2 0 cs.length, .ls 1 3 0 ds.length, .ls 1 4 0 l.length, .ls 1 5 0 p.length]), some (.arr 3 (dsA xs)),
    some (.arr 1 (AD cs)), some (.arr 1 (AC ds)), some (.arr 1 (AC l)), some (.arr 1 (oss p))]) xs.length ⟨0, ls, ps, 0, by simp, by omega, by simp [Fi], h, by simp, by simp⟩ ?_
 rintro J hJ m E H ⟨i, l, p, n, rfl, hi, hrr, hb, rfl, rfl⟩
 have htl : (AC l).take l.length = AC l := AG l
 have hto : (oss p).take p.length = oss p := List.take_of_length_le (by simp [oss])
 by_cases hlt : i < xs.length
 ·have hd := KP W T cs ds l p xs[i].1 xs[i].2.1 xs[i].2.2 hb (hsp _ (List.getElem_mem hlt))
  have hb2 := eP xs[i].1 xs[i].2.1 xs[i].2.2 hb
  have hr2 : Fi (l8 W T cs ds) ls ps (xs.take (i + 1)) = ((doI W T cs ds l p xs[i].1 xs[i].2.1 xs[i].2.2).2.1, (doI W T cs ds l p xs[i].1 xs[i].2.1 xs[i].2.2).2.2, n + if (doI W T cs ds l p xs[i].1 xs[i].2.1 xs[i].2.2).1 then 1 else 0) := by
   rw [List.take_succ_eq_append_getElem hlt, LL, hrr]
  generalize doI W T cs ds l p xs[i].1 xs[i].2.1 xs[i].2.2 = r at *
  obtain ⟨b, l2, p2⟩ := r
  have htl2 : (AC l2).take l2.length = AC l2 := AG l2
  have hto2 : (oss p2).take p2.length = oss p2 := List.take_of_length_le (by simp [oss])
  simp only at hd hb2 hr2
  have hg := W5 hlt
  simp [DM, hlt, hg, Ag]
  refine AA hd ?_
  simp
  exact ⟨by omega, _, by omega, hJ _ _ _ ⟨i + 1, l2, p2, _, rfl, hlt, hr2, hb2, by simp, by simp⟩⟩
 ·have : i = xs.length := by omega
  subst this
  rw [List.take_length] at hrr
  have e : km W T cs ds ls ps xs = (l, p, n) := hrr
  rw [e]
  by_cases hx : xs = []
  ·simp [DM, hx, htl, hto, eu]
  ·have hx0 : ¬ xs.length = 0 := fun e => hx (List.eq_nil_of_length_eq_zero e)
   simp [DM, hx, hx0, htl, hto]
theorem fG (W T : Int) (cs : List Bool) (ds ls : List Int) (ps : List (List Int)) (h : Bw W T cs ds ls ps = true) :
  SoundAt Tryz.prog Af [Nr W T cs ds ls ps, .v (tx [115, 104, 111, 119])] (.v (tx (dD W T cs ls))) [Nr W T cs ds ls ps, .bot] := by
 obtain ⟨hf, h20, hpf⟩ := A6 h
 obtain ⟨hr, hdg, hy, ho⟩ := Aw hf
 have rd := Al [115, 104, 111, 119] (by decide)
 have lt := Uk W T cs ls hr hy
 rw [fA, H5 fA] at rd
 simp only [Gp, Ag] at rd
 generalize dD W T cs ls = t at *
 have htl : (AC ls).take ls.length = AC ls := AG ls
 have hto : (oss ps).take ps.length = oss ps := List.take_of_length_le (by simp [oss])
 refine AJ (md := mdl) (ms := [true, false]) Au (by simp) ?_
 simp [Am]
 refine AA rd ?_
 simp
 (repeat' first | omega | apply And.intro) <;>
 ·refine AA lt ?_
  simp [htl, hto]
theorem Zb (W T : Int) (cs : List Bool) (ds ls : List Int) (ps : List (List Int)) (h : Bw W T cs ds ls ps = true) :
  SoundAt Tryz.prog Af [Nr W T cs ds ls ps, .v (tx [100, 105, 103, 105, 116, 115])] (.v (tx (bI W T cs ds))) [Nr W T cs ds ls ps, .bot] := by
 obtain ⟨hf, h20, hpf⟩ := A6 h
 obtain ⟨hr, hdg, hy, ho⟩ := Aw hf
 obtain ⟨l36, ld, ll⟩ := CD hf
 have rd := Al [100, 105, 103, 105, 116, 115] (by decide)
 obtain ⟨w, rfl⟩ : ∃ w : Nat, W = w := ⟨W.toNat, by have := hr; simp only [A3, decide_eq_true_eq] at this; omega⟩
 obtain ⟨t, rfl⟩ : ∃ t : Nat, T = t := ⟨T.toNat, by have := hr; simp only [A3, decide_eq_true_eq] at this; omega⟩
 have pt := Rf w t cs ds (by omega) (by omega)
 rw [Ya, H5 Ya] at rd
 simp only [Gp, Ag] at rd
 have htl : (AC ls).take ls.length = AC ls := AG ls
 have hto : (oss ps).take ps.length = oss ps := List.take_of_length_le (by simp [oss])
 generalize bI w t cs ds = x at *
 refine AJ (md := mdl) (ms := [true, false]) Au (by simp) ?_
 simp [Am]
 refine AA rd ?_
 simp
 (repeat' first | omega | apply And.intro) <;>
 ·refine AA pt ?_
  simp [htl, hto]
theorem fH (W T : Int) (cs : List Bool) (ds ls : List Int) (ps : List (List Int)) (h : Bw W T cs ds ls ps = true) :
  SoundAt Tryz.prog Af [Nr W T cs ds ls ps, .v (tx [108, 101, 102, 116])] (.v (tx (R7 (BH cs - 2 * Kl ls)))) [Nr W T cs ds ls ps, .bot] := by
 obtain ⟨hf, h20, hpf⟩ := A6 h
 obtain ⟨hr, hdg, hy, ho⟩ := Aw hf
 obtain ⟨l36, ld, ll⟩ := CD hf
 have rd := Al [108, 101, 102, 116] (by decide)
 have lf := SO W T cs ds ls ps (by omega) (by omega)
 have h0 := g8 h
 have h1 := Mh cs
 have it := KR ((BH cs : Int) - 2 * Kl ls) h0 (by omega)
 rw [fB, H5 fB] at rd
 simp only [Gp, Ag] at rd
 have htl : (AC ls).take ls.length = AC ls := AG ls
 have hto : (oss ps).take ps.length = oss ps := List.take_of_length_le (by simp [oss])
 refine AJ (md := mdl) (ms := [true, false]) Au (by simp) ?_
 simp [Am]
 refine AA rd ?_
 simp
 refine AA lf ?_
 simp
 refine AA it ?_
 simp [htl, hto]
theorem fI (W T : Int) (cs : List Bool) (ds ls : List Int) (ps : List (List Int)) (h : Bw W T cs ds ls ps = true) :
  SoundAt Tryz.prog Af [Nr W T cs ds ls ps, .v (tx [112, 97, 115, 116])] (.v (tx (R7 (ps.length : Int)))) [Nr W T cs ds ls ps, .bot] := by
 obtain ⟨hf, h20, hpf⟩ := A6 h
 obtain ⟨hr, hdg, hy, ho⟩ := Aw hf
 obtain ⟨l36, ld, ll⟩ := CD hf
 have rd := Al [112, 97, 115, 116] (by decide)
 have it := KR (ps.length : Int) (by omega) (by omega)
 rw [fC, H5 fC] at rd
 simp only [Gp, Ag] at rd
 have htl : (AC ls).take ls.length = AC ls := AG ls
 have hto : (oss ps).take ps.length = oss ps := List.take_of_length_le (by simp [oss])
 refine AJ (md := mdl) (ms := [true, false]) Au (by simp) ?_
 simp [Am]
 refine AA rd ?_
 simp
 refine AA it ?_
 simp [htl, hto]
theorem Zc (W T : Int) (cs : List Bool) (ds ls : List Int) (ps : List (List Int)) (h : Bw W T cs ds ls ps = true) :
  SoundAt Tryz.prog Af [Nr W T cs ds ls ps, .v (tx [115, 111, 108, 118, 101, 100])] (.v (tx (l9 (LH cs ls)))) [Nr W T cs ds ls ps, .bot] := by
 obtain ⟨hf, h20, hpf⟩ := A6 h
 obtain ⟨hr, hdg, hy, ho⟩ := Aw hf
 obtain ⟨l36, ld, ll⟩ := CD hf
 have rd := Al [115, 111, 108, 118, 101, 100] (by decide)
 have fu := P5 W T cs ls (by omega) ll
 have ye := WE (LH cs ls)
 rw [Yb, H5 Yb] at rd
 simp only [Gp, Ag] at rd
 have htl : (AC ls).take ls.length = AC ls := AG ls
 have hto : (oss ps).take ps.length = oss ps := List.take_of_length_le (by simp [oss])
 refine AJ (md := mdl) (ms := [true, false]) Au (by simp) ?_
 simp [Am]
 refine AA rd ?_
 simp
 (repeat' first | omega | apply And.intro) <;>
 ·refine AA fu ?_
  simp
  refine AA ye ?_
  simp [htl, hto]
theorem fJ (W T : Int) (cs : List Bool) (ds ls : List Int) (ps : List (List Int)) (h : Bw W T cs ds ls ps = true) :
  SoundAt Tryz.prog Af [Nr W T cs ds ls ps, .v (tx [100, 101, 97, 100])] (.v (tx (l9 (bM W T cs ds ls)))) [Nr W T cs ds ls ps, .bot] := by
 obtain ⟨hf, h20, hpf⟩ := A6 h
 obtain ⟨hr, hdg, hy, ho⟩ := Aw hf
 obtain ⟨l36, ld, ll⟩ := CD hf
 have rd := Al [100, 101, 97, 100] (by decide)
 have fu := ZD W T cs ds ls (by omega) (by omega) (by omega)
 have ye := WE (bM W T cs ds ls)
 rw [fD, H5 fD] at rd
 simp only [Gp, Ag] at rd
 have htl : (AC ls).take ls.length = AC ls := AG ls
 have hto : (oss ps).take ps.length = oss ps := List.take_of_length_le (by simp [oss])
 refine AJ (md := mdl) (ms := [true, false]) Au (by simp) ?_
 simp [Am]
 refine AA rd ?_
 simp
 (repeat' first | omega | apply And.intro) <;>
 ·refine AA fu ?_
  simp
  refine AA ye ?_
  simp [htl, hto]
theorem fK (W T : Int) (cs : List Bool) (ds ls : List Int) (ps : List (List Int)) (h : Bw W T cs ds ls ps = true) :
  SoundAt Tryz.prog Af [Nr W T cs ds ls ps, .v (tx [104, 105, 110, 116])] (.v (tx (if VA W T cs ds ls < 0 then eu else Az (0, VA W T cs ds ls, YE W T cs ds ls)))) [Nr W T cs ds ls ps, .bot] := by
 obtain ⟨hf, h20, hpf⟩ := A6 h
 obtain ⟨hr, hdg, hy, ho⟩ := Aw hf
 obtain ⟨l36, ld, ll⟩ := CD hf
 have rd := Al [104, 105, 110, 116] (by decide)
 have hi := XD W T cs ds ls (by omega) (by omega) (by omega)
 have dt := F4 (0, VA W T cs ds ls, YE W T cs ds ls)
 simp only [Ag] at dt
 rw [fF, H5 fF] at rd
 simp only [Gp, Ag] at rd
 have htl : (AC ls).take ls.length = AC ls := AG ls
 have hto : (oss ps).take ps.length = oss ps := List.take_of_length_le (by simp [oss])
 generalize VA W T cs ds ls = c at *
 generalize YE W T cs ds ls = x at *
 refine AJ (md := mdl) (ms := [true, false]) Au (by simp) ?_
 simp [Am]
 refine AA rd ?_
 simp
 (repeat' first | omega | apply And.intro) <;>
 ·refine AA hi ?_
  by_cases hc : c < 0
  ·simp [hc, htl, hto, eu]
  ·simp [hc]
   refine AA dt ?_
   simp [htl, hto]
theorem Sm (W T : Int) (cs : List Bool) (ds ls : List Int) (ps : List (List Int)) (s : List UInt8) (h : Bw W T cs ds ls ps = true) (hs : s.length < 2 ^ 30) :
  SoundAt Tryz.prog Af [Nr W T cs ds ls ps, .v (tx s)] (.v (tx (La W T cs ds ls ps s).2.2)) [Nr W T cs ds (La W T cs ds ls ps s).1 (La W T cs ds ls ps s).2.1, .bot] := by
 cases hr : Bo s with
 | true => exact ky W T cs ds ls ps s h hs hr
 | false =>
 by_cases h0 : s = [101, 110, 100]
 ·subst h0; exact g9 W T cs ds ls ps h
 have e : La W T cs ds ls ps s = (ls, ps, pd W T cs ds ls ps s) := by simp [La, hr, h0]
 rw [e]
 simp only [pd]
 by_cases h1 : s = [115, 104, 111, 119]
 ·subst h1; exact fG W T cs ds ls ps h
 rw [if_neg h1]
 by_cases h2 : s = [100, 105, 103, 105, 116, 115]
 ·subst h2; exact Zb W T cs ds ls ps h
 rw [if_neg h2]
 by_cases h3 : s = [108, 101, 102, 116]
 ·subst h3; exact fH W T cs ds ls ps h
 rw [if_neg h3]
 by_cases h4 : s = [112, 97, 115, 116]
 ·subst h4; exact fI W T cs ds ls ps h
 rw [if_neg h4]
 by_cases h5 : s = [115, 111, 108, 118, 101, 100]
 ·subst h5; exact Zc W T cs ds ls ps h
 rw [if_neg h5]
 by_cases h6 : s = [100, 101, 97, 100]
 ·subst h6; exact fJ W T cs ds ls ps h
 rw [if_neg h6]
 by_cases h7 : s = [104, 105, 110, 116]
 ·subst h7; exact fK W T cs ds ls ps h
 rw [if_neg h7]
 have rd := Al s hs
 rw [hr, H5 hr] at rd
 simp only [Gp, Ag] at rd
 have htl : (AC ls).take ls.length = AC ls := AG ls
 have hto : (oss ps).take ps.length = oss ps := List.take_of_length_le (by simp [oss])
 refine AJ (md := mdl) (ms := [true, false]) Au (by simp) ?_
 simp [Am]
 refine AA rd ?_
 simp [h0, h1, h2, h3, h4, h5, h6, h7, htl, hto]
def fL (mk : List Int → List (List Int) → AV) (no : AV) (W T : Int) (cs : List Bool) (ds ls : List Int) (ps : List (List Int)) (s : List UInt8) : AV :=
 if Bw W T cs ds ls ps = true then .tup [mk (La W T cs ds ls ps s).1 (La W T cs ds ls ps s).2.1, .v (tx (La W T cs ds ls ps s).2.2)] else .tup [no, .v (tx [])]
theorem Ul (W T : Int) (cs : List Bool) (ds ls : List Int) (ps : List (List Int)) (s : List UInt8) (hc : cs.length ≤ 2 ^ 30) (hd : ds.length ≤ 2 ^ 30) (hl : ls.length ≤ 2 ^ 30) (hb : ps.length ≤ 2 ^ 30) (hp : ∀ p ∈ ps, p.length ≤ 2 ^ 30) (hs : s.length < 2 ^ 30) :
  SoundAt Tryz.prog Ng [bkA W T cs ds ls ps, .v (tx s)] (fL (bkO W T cs ds) (bkO 0 0 [] [] [] []) W T cs ds ls ps s) [.bot, .bot] := by
 have hv := Lp W T cs ds ls ps (by omega) (by omega) (by omega) (by omega) (fun p h => by have := hp p h; omega)
 refine AJ (md := mdl) (ms := [false, false]) Uj (by simp) ?_
 unfold fL
 cases h : Bw W T cs ds ls ps with
 | false =>
   rw [h] at hv
   simp [I4]
   refine AA hv ?_
   simp
 | true =>
   rw [h] at hv
   obtain ⟨hf, h20, hpf⟩ := A6 h
   obtain ⟨l36, ld, ll⟩ := CD hf
   have hcopy := Jv W T cs ds ls ps (by omega) (by omega) (by omega) (by omega) (fun p hp => by have := CD (hpf p hp); omega)
   have hln := Sm W T cs ds ls ps s h hs
   generalize La W T cs ds ls ps s = r at *
   obtain ⟨l2, p2, t⟩ := r
   have htl : (AC l2).take l2.length = AC l2 := AG l2
   have hto : (oss p2).take p2.length = oss p2 := List.take_of_length_le (by simp [oss])
   simp [I4]
   refine AA hv ?_
   simp
   refine AA hcopy ?_
   simp
   refine AA hln ?_
   simp [htl, hto]
theorem k8 {W T : Int} {cs : List Bool} {ds ls : List Int} {ps : List (List Int)} (h : Bw W T cs ds ls ps = true) : cs.length ≤ 36 ∧ ds.length ≤ 36 ∧ ls.length ≤ 36 ∧ ps.length ≤ 20 ∧ (∀ p ∈ ps, p.length ≤ 40) ∧
  SoundAt Tryz.prog HR [bkA W T cs ds ls ps] (.v (.bool true)) [.bot] := by
 obtain ⟨hf, h20, hpf⟩ := A6 h
 obtain ⟨l36, ld, ll⟩ := CD hf
 have hpl : ∀ p ∈ ps, p.length ≤ 40 := fun p hp => by have := CD (hpf p hp); omega
 have val := HT W T cs ds ls ps (by omega) (by omega) (by omega) (by omega) (fun p hp => by have := hpl p hp; omega)
 rw [h] at val
 exact ⟨l36, by omega, by omega, h20, hpl, val⟩
@[simp] abbrev Nh : Nat := 55
abbrev Jy : Plan := .take (.o 19 (.iadr 1) [.t 16, .t 18]) <| .al (.l 20 19) ( .take (.o 21 (.bin .add 1) [.t 15, .t 20]) <| .take (.o 26 (.bin .add 1) [.t 21, .t 25]) <| .take (.m 4 26) <| .done)
def I5 : ACode := .seq (.reg [.o 4 .mv [.c (.v (.string ⟨#[]⟩))]]) <| .seq (.seq (.reg [.m 6 1, .o 7 (.len true) [.t 6], .o 8 (.bin .eql 0) [.t 7, .k 0]]) <| .cond (.t 8) ( .seq (.reg [.o 4 .mv [.c (.v (.string ⟨#[10]⟩))]]) <| .ret) ( .skip)) <| .seq (.reg [.m 9 0, .m 10 1, .o 11 (.len true) [.t 10], .o 12 (.call 54 []) [.t 9, .t 11], .m 5 12]) <| .seq (.draw ( .take (.m 13 1) <| .take (.m 14 5) <| .take (.o 15 (.sslice false true) [.t 13, .t 14]) <| .take (.m 17 0) <| .take (.m 22 1) <| .take (.m 23 5) <| .take (.o 24 (.bin .add 0) [.t 23, .k 1]) <| .take (.o 25 (.sslice true false) [.t 22, .t 24]) <| .alt (.o 16 (.bsl 1) [.c (.v (.string ⟨#[]⟩)), .c (.v (.string ⟨#[48]⟩)), .c (.v (.string ⟨#[32]⟩)), .c (.v (.string ⟨#[10]⟩)), .c (.v (.string ⟨#[101]⟩)), .c (.v (.string ⟨#[98, 97, 99, 107]⟩))]) ( .al (.o 18 (.call 54 []) [.t 17, .k 6]) Jy) <| .al (.o 18 (.call 54 []) [.t 17, .k 6]) ( .al (.o 16 (.bsl 1) [.c (.v (.string ⟨#[]⟩)), .c (.v (.string ⟨#[48]⟩)), .c (.v (.string ⟨#[32]⟩)), .c (.v (.string ⟨#[10]⟩)), .c (.v (.string ⟨#[101]⟩)), .c (.v (.string ⟨#[98, 97, 99, 107]⟩))]) Jy))) <| .ret
theorem Um : cFn Tryz.prog Nh 27 [.t 4] I5 := ⟨Tryz.f55, _, Tryz.func55, rfl, by kernel_rfl, by kernel_rfl, by kernel_rfl, by kernel_rfl⟩
end Go.Proofs.Dev
