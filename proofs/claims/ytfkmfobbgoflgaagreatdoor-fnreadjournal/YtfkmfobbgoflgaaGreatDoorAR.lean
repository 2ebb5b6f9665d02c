/- Contracts of the functions of the program over slots and rows, each proved against the program itself; no condition beyond those that each theorem names. -/
import Derived.Test.YtfkmfobbgoflgaaGreatDoorAK
import Derived.Test.YtfkmfobbgoflgaaGreatDoorAO
import Derived.Test.YtfkmfobbgoflgaaGreatDoorAQ
import Derived.Test.YtfkmfobbgoflgaaGreatDoorAL
import Derived.Test.YtfkmfobbgoflgaaGreatDoorAI
import Derived.Test.YtfkmfobbgoflgaaGreatDoorProg
import Derived.Test.YtfkmfobbgoflgaaGreatDoorAP
set_option linter.unusedSimpArgs false
set_option linter.unusedVariables false
set_option maxRecDepth 100000
namespace Go.Proofs.Dev
def prL : List (Int × Int) := (List.range 7).flatMap fun a => (List.range' a (7 - a)).map fun b : Nat => ((a : Int), (b : Int))
def stN (a : Nat) : Nat := a * (15 - a) / 2
theorem gg {a : Nat} (h : a < 7) : stN (a + 1) = stN a + (7 - a) ∧ stN a + (7 - a) ≤ 28 := by
 have : ∀ a < 7, stN (a + 1) = stN a + (7 - a) ∧ stN a + (7 - a) ≤ 28 := by decide
 exact this a h
theorem nQ {a b : Nat} (h : a < 7) (hb : b < 7 - a) : prL[stN a + b]? = some ((a : Int), ((a + b : Nat) : Int)) := by
 have : ∀ a < 7, ∀ b < 7 - a, prL[stN a + b]? = some ((a : Int), ((a + b : Nat) : Int)) := by decide
 exact this a h b hb
def oW (n : Nat) : Int × Int := prL.getD n (0, 0)
def nR (ls : List Int) (k : Nat) : Bool := decide (ati ls k = 1 ∨ ati ls k = 2)
def SP (ls : List Int) : Nat → Nat
 | 0 => 0
 | i + 1 => SP ls i + if nR ls i then 1 else 0
def oX (out : List Int) (i j : Nat) (p : Int × Int) : List Int := (out.set i p.1).set j p.2
def br (W T : Int) (ls : List Int) (fr : Nat) : Nat → List Int
 | 0 => List.replicate ls.length (-1)
 | i + 1 => if nR ls i then oX (br W T ls fr i) i (AF W T i (ati ls i)).toNat (oW ((fr + SP ls i) % 28)) else br W T ls fr i
def mkI (W T : Int) (cs : List Bool) (ls : List Int) (fr : Int) : List Int :=
 if (A3 W T cs && AU W T cs ls && LH cs ls && decide (0 ≤ fr ∧ fr ≤ 27)) = true then br W T ls fr.toNat ls.length else []
theorem aG (ls : List Int) : ∀ i, SP ls i ≤ i
 | 0 => Nat.le_refl _
 | i + 1 => by have := aG ls i; simp only [SP]; split <;> omega
theorem O6 (W T : Int) (ls : List Int) (fr : Nat) : ∀ i, (br W T ls fr i).length = ls.length
 | 0 => by simp [br]
 | i + 1 => by
   have := O6 W T ls fr i
   simp only [br]; split
   ·simp [oX, this]
   ·exact this
theorem bU (W T : Int) (cs : List Bool) (ls : List Int) (fr : Int) : (mkI W T cs ls fr).length ≤ ls.length := by
 unfold mkI; split
 ·simp [O6]
 ·simp
theorem nS {a N : Nat} (h : N < 28) (h2 : stN a ≤ N) (h7 : a ≤ 7) : a < 7 := by
 have e : stN 7 = 28 := by decide
 rcases Nat.lt_or_ge a 7 with h | h
 ·exact h
 ·have : a = 7 := by omega
  subst this; omega
theorem bV {W T : Int} {cs : List Bool} {ls : List Int} (hr : A3 W T cs = true) (hy : AU W T cs ls = true) {k : Nat} (hk : k < ls.length) (hw : ati ls k = 1 ∨ ati ls k = 2) :
  0 ≤ AF W T k (ati ls k) ∧ AF W T k (ati ls k) < cs.length := by
 obtain ⟨w1, w2, t1, t2, l1, _⟩ := BI hr
 simp only [AU, Bool.and_eq_true, decide_eq_true_eq, CI] at hy
 obtain ⟨hl, hy⟩ := hy
 have p1 := hy k hk
 have hst := C1 (T := T) (k := k) (way := ati ls k) w1 (by omega) (by omega)
 simp only [ID, decide_eq_true_eq] at p1
 rcases p1 with p1 | ⟨_, _, pc, p0, pt, _⟩
 ·omega
 ·omega
theorem RN (W T : Int) (cs : List Bool) (ls : List Int) (fr : Int) (hb : cs.length < 2 ^ 40) (hl : ls.length < 2 ^ 40) :
  SoundAt Tryz.prog Kj [.agg [.v (.int .i64 W), .v (.int .i64 T), .sl 1 1 (AD cs)], .sl 1 1 (AC ls), .v (.int .i64 fr)] (.os 1 (AC (mkI W T cs ls fr))) [.bot, .bot, .bot] := by
 refine AJ (md := md0) (ms := [false, false, false]) RF (by simp) ?_
 simp [Kk]
 refine AA (Tl W T cs ls hb hl) ?_
 cases hp : (A3 W T cs && AU W T cs ls && LH cs ls) with
 | false => simp [mkI, hp]
 | true =>
 simp
 refine AA (Aq fr 0 27) ?_
 by_cases hx : 0 ≤ fr ∧ fr ≤ 27
 case neg =>
  have hx2 : (decide (0 ≤ fr) && decide (fr ≤ 27)) = false := by simp; omega
  simp [hx2, mkI, hx]
 obtain ⟨f, rfl⟩ : ∃ f : Nat, fr = f := ⟨fr.toNat, by omega⟩
 have hrl := hp
 simp only [Bool.and_eq_true] at hrl
 obtain ⟨⟨hr, hy⟩, hfull⟩ := hrl
 have hlen : ls.length = cs.length := by simp only [AU, Bool.and_eq_true, decide_eq_true_eq] at hy; exact hy.1
 have h36 := AZ hr
 have hmk : mkI W T cs ls f = br W T ls f ls.length := by simp [mkI, hp, hx]
 rw [hmk]
 simp [hx]
 refine AH (fun m E H => ∃ i : Nat, m = ls.length - i ∧ i ≤ ls.length ∧ H = [some (.box [.v (.int .i64 W), .v (.int .i64 T), .sl 1 1 (AD cs)]), some (.arr 1 (AC (List.replicate i (-1))))] ∧
  E = [(1, .sl 1 1 (AC ls)), (2, .v (.int .i64 f)), (3, .lp 0 0 0 0), (7, .ls 1 1 0 i), (8, .v (.int .i64 i))]) ls.length ⟨0, by simp⟩ ?_
 rintro J hJ m E H ⟨i, rfl, hi, rfl, rfl⟩
 by_cases h : i < ls.length
 ·simp [Eg, h]
  refine ⟨by omega, by omega, _, by omega, hJ _ _ _ ⟨i + 1, rfl, h, ?_, by simp⟩⟩
  rw [List.replicate_succ', Dy]; rfl
 have : i = ls.length := by omega
 subst this
 simp [Eg]
 clear hJ J
 refine AH (fun m E H => ∃ i : Nat, m = ls.length - i ∧ i ≤ ls.length ∧ H = [some (.box [.v (.int .i64 W), .v (.int .i64 T), .sl 1 1 (AD cs)]), some (.arr 1 (AC (br W T ls f i)))] ∧
  E = [(1, .sl 1 1 (AC ls)), (2, .v (.int .i64 ((f + SP ls i : Nat) : Int))), (3, .lp 0 0 0 0), (7, .ls 1 1 0 ls.length), (9, .v (.int .i64 i))]) ls.length ⟨0, by simp [br, SP]⟩ ?_
 rintro J hJ m E H ⟨i, rfl, hi, rfl, rfl⟩
 have hml := O6 W T ls f i
 by_cases h : i < ls.length
 case neg =>
  have : i = ls.length := by omega
  subst this
  simp [Cg, hml]
  exact List.take_of_length_le (by simp [hml])
 by_cases hd : nR ls i = true
 case neg =>
  have hw : ¬ (ati ls i = 1 ∨ ati ls i = 2) := by simpa [nR] using hd
  have hw1 : ¬ ati ls i = 1 := fun e => hw (.inl e)
  have hw2 : ¬ ati ls i = 2 := fun e => hw (.inr e)
  simp [Cg, h, hw1, hw2]
  refine ⟨by omega, _, by omega, hJ _ _ _ ⟨i + 1, rfl, h, ?_, ?_⟩⟩ <;> simp [br, SP, hd]
 have hw : ati ls i = 1 ∨ ati ls i = 2 := by simpa [nR] using hd
 have hdn := aG ls i
 obtain ⟨o1, o2⟩ := bV hr hy h hw
 have one := C2 W T cs i (ati ls i) hr (by omega) (by omega)
 generalize hto : AF W T i (ati ls i) = to at *
 generalize hout : br W T ls f i = out at *
 generalize hN : (f + SP ls i) % 28 = N at *
 have hN28 : N < 28 := by omega
 have next : Cx J (ls.length - i) [(1, .sl 1 1 (AC ls)), (2, .v (.int .i64 ((f : Int) + (SP ls i : Nat) + 1))), (3, .lp 0 0 0 0), (7, .ls 1 1 0 ls.length), (9, .v (.int .i64 (i + 1)))]
   [some (.box [.v (.int .i64 W), .v (.int .i64 T), .sl 1 1 (AD cs)]), some (.arr 1 (AC (oX out i to.toNat (oW N))))] := by
  refine ⟨_, by omega, hJ _ _ _ ⟨i + 1, rfl, h, ?_, ?_⟩⟩
  ·simp [br, hd, hto, hout, hN]
  ·simp [SP, hd, Int.add_assoc]
 have hNi : ((f : Int) + (SP ls i : Nat)) % 28 = (N : Int) := by omega
 rcases hw with hw | hw <;> rw [hw] at one <;>
 ·simp [Cg, h, hw, hNi]
  refine ⟨by omega, ?_⟩
  refine AH (fun b E H => ∃ a : Nat, a < 7 ∧ stN a + b = N ∧ H = [some (.box [.v (.int .i64 W), .v (.int .i64 T), .sl 1 1 (AD cs)]), some (.arr 1 (AC out))] ∧
   E = [(1, .sl 1 1 (AC ls)), (2, .v (.int .i64 ((f : Int) + (SP ls i : Nat)))), (3, .lp 0 0 0 0), (7, .ls 1 1 0 ls.length), (9, .v (.int .i64 i)), (10, .v (.int .i64 b)), (11, .v (.int .i64 a))]) N ⟨0, by omega, by simp [stN], rfl, by simp⟩ ?_
  rintro J2 hJ2 b E H ⟨a, ha, hab, rfl, rfl⟩
  by_cases hb6 : a + b ≤ 6
  case neg =>
   have hb6' : (6 : Int) - a < b := by omega
   have hs := gg ha
   have ha7 := nS (a := a + 1) hN28 (by omega) (by omega)
   have e1 : ((b : Int) - (6 - (a : Int) + 1)) = ((b - (7 - a) : Nat) : Int) := by omega
   simp [Eh, hb6', e1]
   refine ⟨by omega, by omega, by omega, by omega, b - (7 - a), by omega, hJ2 _ _ _ ⟨a + 1, ha7, by omega, rfl, ?_⟩⟩
   simp
  have hb6' : ¬ (6 : Int) - a < b := by omega
  have hpr : oW N = ((a : Int), ((a + b : Nat) : Int)) := by simp only [oW, List.getD_eq_getElem?_getD, ← hab, nQ ha (by omega : b < 7 - a), Option.getD_some]
  rw [hpr] at next
  simp [oX] at next
  have hio : i < out.length := by omega
  have hto2 : to < out.length := by omega
  simp [Eh, hb6', hio, hml, h]
  refine ⟨by omega, ?_⟩
  simp [IX, h, hw, Dd]
  (repeat' first | omega | apply And.intro) <;>
  ·refine AA one ?_
   simp [o1, hml, Dd]
   exact ⟨by omega, by omega, by omega, next⟩
theorem LS (W T : Int) (cs : List Bool) (ls : List Int) (hb : cs.length < 2 ^ 40) (hl : ls.length < 2 ^ 40) :
  SoundAt Tryz.prog QG [.agg [.v (.int .i64 W), .v (.int .i64 T), .sl 1 1 (AD cs)], .sl 1 1 (AC ls)] (.v (.bool (A3 W T cs && AU W T cs ls))) [.bot, .bot] := by
 refine AJ (md := md0) (ms := [false, false]) W4 (by simp) ?_
 simp [QH]
 refine AA (FZ W T cs hb) ?_
 cases hr : A3 W T cs with
 | false => simp
 | true =>
 simp
 refine AA (JQ W T cs ls hr hl) ?_
 simp
@[simp] abbrev Rv : Nat := 12
def Rw : ACode := .seq (.reg [.o 0 .mv [.kb false]]) <| .seq (.reg [.o 1 (.call 50 []) [.k 2, .k 3], .o 2 (.call 49 []) [.t 1], .o 3 (.bin .eql 0) [.t 2, .k 6], .m 0 3]) <| .ret
theorem YH : cFn Tryz.prog Rv 4 [.t 0] Rw := ⟨Tryz.f12, _, Tryz.func12, rfl, by kernel_rfl, by kernel_rfl, by kernel_rfl, by kernel_rfl⟩
@[simp] abbrev NA : Nat := 67
def Dk : ACode := .seq (.seq (.reg [.m 11 5, .m 12 0, .n 13 12, .o 14 (.bin .lss 0) [.t 11, .t 13]]) <| .cond (.t 14) ( .skip) ( .exit 0)) <| .seq (.block 1 ( .seq (.draw ( .take (.m 17 0) <| .take (.m 18 5) <| .take (.o 19 (.iadr 1) [.t 17, .t 18]) <| .take (.m 21 1) <| .take (.m 22 5) <| .take (.o 23 (.iadr 1) [.t 21, .t 22]) <| .alt (.l 20 19) ( .al (.l 24 23) ( .take (.o 25 (.bin .neq 0) [.t 20, .t 24]) <| .done)) <| .al (.l 24 23) ( .al (.l 20 19) ( .take (.o 25 (.bin .neq 0) [.t 20, .t 24]) <| .done)))) <| .cond (.t 25) ( .seq (.reg [.o 4 .mv [.kb false]]) <| .ret) ( .skip))) <| .reg [.m 15 5, .o 16 (.bin .add 0) [.t 15, .k 1], .m 5 16]
def NB : ACode := .seq (.reg [.o 4 .mv [.kb false]]) <| .seq (.seq (.reg [.m 6 0, .n 7 6, .m 8 1, .n 9 8, .o 10 (.bin .neq 0) [.t 7, .t 9]]) <| .cond (.t 10) ( .seq (.reg [.o 4 .mv [.kb false]]) <| .ret) ( .skip)) <| .seq (.seq (.reg [.o 5 .mv [.k 0]]) <| .block 0 ( .loop [(0, 1), (1, 1)] [0, 1, 5] Dk)) <| .seq (.reg [.o 4 .mv [.kb true]]) <| .ret
theorem UB : cFn Tryz.prog NA 26 [.t 4] NB := ⟨Tryz.f67, _, Tryz.func67, rfl, by kernel_rfl, by kernel_rfl, by kernel_rfl, by kernel_rfl⟩
@[simp] abbrev Lu : Nat := 68
abbrev GM : Plan := .al (.o 25 (.call 67 []) [.t 20, .t 24]) ( .take (.o 26 (.un .not) [.t 25]) <| .done)
def E9 : ACode := .seq (.seq (.reg [.m 11 5, .m 12 0, .n 13 12, .o 14 (.bin .lss 0) [.t 11, .t 13]]) <| .cond (.t 14) ( .skip) ( .exit 0)) <| .seq (.block 1 ( .seq (.draw ( .take (.m 17 0) <| .take (.m 18 5) <| .take (.o 19 (.iadr 1) [.t 17, .t 18]) <| .take (.m 21 1) <| .take (.m 22 5) <| .take (.o 23 (.iadr 1) [.t 21, .t 22]) <| .alt (.l 20 19) ( .al (.l 24 23) GM) <| .al (.l 24 23) ( .al (.l 20 19) GM))) <| .cond (.t 26) ( .seq (.reg [.o 4 .mv [.kb false]]) <| .ret) ( .skip))) <| .reg [.m 15 5, .o 16 (.bin .add 0) [.t 15, .k 1], .m 5 16]
def Lv : ACode := .seq (.reg [.o 4 .mv [.kb false]]) <| .seq (.seq (.reg [.m 6 0, .n 7 6, .m 8 1, .n 9 8, .o 10 (.bin .neq 0) [.t 7, .t 9]]) <| .cond (.t 10) ( .seq (.reg [.o 4 .mv [.kb false]]) <| .ret) ( .skip)) <| .seq (.seq (.reg [.o 5 .mv [.k 0]]) <| .block 0 ( .loop [(0, 1), (1, 1)] [0, 1, 5] E9)) <| .seq (.reg [.o 4 .mv [.kb true]]) <| .ret
theorem SQ : cFn Tryz.prog Lu 27 [.t 4] Lv := ⟨Tryz.f68, _, Tryz.func68, rfl, by kernel_rfl, by kernel_rfl, by kernel_rfl, by kernel_rfl⟩
@[simp] abbrev OJ : Nat := 191
def OK : ACode := .seq (.reg [.o 3 .box [.t 0], .o 6 .mv [.c (.os 1 [])], .o 7 .mv [.kb false]]) <| .seq (.block 0 ( .seq (.reg [.la 9 3 3, .m 10 1, .o 11 (.call 179 []) [.t 9, .t 10], .o 12 (.un .not) [.t 11], .m 8 12]) <| .cond (.t 8) ( .seq (.reg [.o 6 .mv [.c (.os 1 [])], .o 7 .mv [.kb false]]) <| .ret) ( .seq (.reg [.la 14 3 3, .m 15 2, .o 16 (.call 229 []) [.t 14, .t 15], .o 17 (.un .not) [.t 16], .m 18 17, .mg 19 1 18 false, .mg 20 2 18 false, .g 21 (.iadr 1) [.t 19, .t 20] 18 false, .lg 22 21 18 false, .g 23 (.bin .eql 0) [.t 22, .k 0] 18 false, .o 24 .pick [.t 18, .kb true, .t 23], .m 13 24]) <| .cond (.t 13) ( .seq (.reg [.m 25 1, .o 26 (.call 126 []) [.t 25], .m 6 26, .o 7 .mv [.kb false]]) <| .ret) ( .skip)))) <| .seq (.reg [.la 27 3 3, .m 28 1, .m 29 2, .o 30 (.call 236 []) [.t 27, .t 28, .t 29], .m 6 30, .o 7 .mv [.kb true]]) <| .ret
theorem VB : cFn Tryz.prog OJ 31 [.t 6, .t 7] OK := ⟨Tryz.f191, _, Tryz.func191, rfl, by kernel_rfl, by kernel_rfl, by kernel_rfl, by kernel_rfl⟩
@[simp] abbrev QR : Nat := 190
def QS : ACode := .seq (.reg [.o 4 .box [.t 0], .o 8 .mv [.c (.os 1 [])], .o 9 .mv [.kb false]]) <| .seq (.block 0 ( .seq (.reg [.la 11 3 4, .m 12 1, .o 13 (.call 179 []) [.t 11, .t 12], .o 14 (.un .not) [.t 13], .m 10 14]) <| .cond (.t 10) ( .seq (.reg [.o 8 .mv [.c (.os 1 [])], .o 9 .mv [.kb false]]) <| .ret) ( .seq (.reg [.la 16 3 4, .m 17 1, .m 18 2, .m 19 3, .o 20 (.call 234 []) [.t 16, .t 17, .t 18, .t 19], .o 21 (.un .not) [.t 20], .m 15 21]) <| .cond (.t 15) ( .seq (.reg [.m 22 1, .o 23 (.call 126 []) [.t 22], .m 8 23, .o 9 .mv [.kb false]]) <| .ret) ( .skip)))) <| .seq (.reg [.la 24 3 4, .m 25 1, .m 26 2, .m 27 3, .o 28 (.call 235 []) [.t 24, .t 25, .t 26, .t 27], .m 8 28, .o 9 .mv [.kb true]]) <| .ret
theorem XF : cFn Tryz.prog QR 29 [.t 8, .t 9] QS := ⟨Tryz.f190, _, Tryz.func190, rfl, by kernel_rfl, by kernel_rfl, by kernel_rfl, by kernel_rfl⟩
@[simp] abbrev Lw : Nat := 49
def Lx : ACode := .seq (.reg [.o 1 .box [.t 0], .o 2 .mv [.k 0]]) <| .seq (.seq (.reg [.la 3 3 1, .o 4 (.call 108 []) [.t 3], .o 5 (.un .not) [.t 4]]) <| .cond (.t 5) ( .seq (.reg [.o 2 .mv [.k (-1)]]) <| .ret) ( .skip)) <| .seq (.reg [.f 6 2 1, .l 7 6, .o 8 (.call 109 []) [.t 7], .m 2 8]) <| .ret
theorem SR : cFn Tryz.prog Lw 9 [.t 2] Lx := ⟨Tryz.f49, _, Tryz.func49, rfl, by kernel_rfl, by kernel_rfl, by kernel_rfl, by kernel_rfl⟩
@[simp] abbrev Ly : Nat := 50
def FA : ACode := .seq (.reg [.o 29 (.bin .lss 0) [.t 28, .t 27]]) <| .seq (.cond (.t 29) ( .skip) ( .exit 0)) <| .seq (.block 1 ( .seq (.reg [.m 30 28, .m 6 30]) <| .reg [.f 31 2 5, .l 32 31, .m 33 6, .o 34 (.iadr 1) [.t 32, .t 33], .s (.store 1) [.t 34, .kb true]])) <| .reg [.o 35 (.bin .add 0) [.t 28, .k 1], .m 28 35]
def Lz : ACode := .seq (.reg [.o 4 (.alloc rz) []]) <| .seq (.seq (.reg [.m 7 0, .o 8 (.call 63 []) [.t 7, .k 1, .k 6], .o 9 (.un .not) [.t 8], .m 10 9, .mg 11 1 10 false, .g 12 (.call 63 []) [.t 11, .k 1, .k 6] 10 false, .g 13 (.un .not) [.t 12] 10 false, .o 14 .pick [.t 10, .kb true, .t 13], .m 15 14, .mg 16 0 15 false, .mg 17 1 15 false, .g 18 (.bin .mul 0) [.t 16, .t 17] 15 false, .g 19 (.bin .gtr 0) [.t 18, .k 24] 15 false, .o 20 .pick [.t 15, .kb true, .t 19]]) <| .cond (.t 20) ( .seq (.reg [.o 21 (.build rz []) [], .s (.store 3) [.t 4, .t 21]]) <| .ret) ( .skip)) <| .seq (.reg [.m 22 0, .m 23 1, .o 24 (.call 110 []) [.t 22, .t 23], .o 5 (.alloc rz) [], .s (.store 3) [.t 5, .t 24]]) <| .seq (.seq (.reg [.f 25 2 5, .l 26 25, .n 27 26, .o 28 .mv [.k 0]]) <| .block 0 ( .loop [] [4, 5, 27, 28] FA)) <| .seq (.reg [.la 36 3 5, .s (.store 3) [.t 4, .t 36]]) <| .ret
theorem SS : cFn Tryz.prog Ly 37 [.c 4 true 3] Lz := ⟨Tryz.f50, _, Tryz.func50, rfl, by kernel_rfl, by kernel_rfl, by kernel_rfl, by kernel_rfl⟩
@[simp] abbrev Jh : Nat := 236
def HG : ACode := .seq (.reg [.m 22 7, .m 6 22]) <| .ret
abbrev HH : Plan := .al (.o 17 (.call 205 []) [.t 11, .t 12, .t 16]) ( .take (.o 20 (.iadr 1) [.t 10, .t 17]) <| .al (.s (.store 1) [.t 20, .k 0]) ( .take (.o 21 (.iadr 1) [.t 18, .t 19]) <| .al (.s (.store 1) [.t 21, .k 0]) ( .done)))
def Ji : ACode := .seq (.reg [.o 3 .box [.t 0], .o 6 .mv [.c (.os 1 [])]]) <| .seq (.reg [.m 8 1, .o 9 (.call 126 []) [.t 8], .m 7 9]) <| .seq (.draw ( .take (.m 10 7) <| .take (.m 12 2) <| .take (.m 13 1) <| .take (.m 14 2) <| .take (.o 15 (.iadr 1) [.t 13, .t 14]) <| .take (.m 18 7) <| .take (.m 19 2) <| .alt (.la 11 3 3) ( .al (.l 16 15) HH) <| .al (.l 16 15) ( .al (.la 11 3 3) HH))) <| .gc [] [7] HG
theorem QT : cFn Tryz.prog Jh 23 [.t 6] Ji := ⟨Tryz.f236, _, Tryz.func236, rfl, by kernel_rfl, by kernel_rfl, by kernel_rfl, by kernel_rfl⟩
@[simp] abbrev Rx : Nat := 110
def Ry : ACode := .seq (.reg [.o 4 (.alloc rz) []]) <| .seq (.reg [.m 5 0, .m 6 1, .m 7 0, .m 8 1, .o 9 (.bin .mul 0) [.t 7, .t 8], .o 10 (.mksl 1 1 (.v (.bool false))) [.t 9, .t 9], .o 11 (.build rz [(0, 1), (1, 1), (2, 1)]) [.t 5, .t 6, .t 10], .s (.store 3) [.t 4, .t 11]]) <| .ret
theorem YI : cFn Tryz.prog Rx 12 [.c 4 true 3] Ry := ⟨Tryz.f110, _, Tryz.func110, rfl, by kernel_rfl, by kernel_rfl, by kernel_rfl, by kernel_rfl⟩
@[simp] abbrev OL : Nat := 43
def KG : ACode := .seq (.reg [.o 2 .mv [.c (.v (.pointer none))]]) <| .seq (.seq (.reg [.m 3 0, .n 4 3, .o 5 (.bin .gtr 0) [.t 4, .k 2000]]) <| .cond (.t 5) ( .reg [.m 6 0, .o 7 (.slice 1 false false true false) [.t 6, .k 2000], .m 0 7]) ( .skip)) <| .seq (.reg [.m 8 0, .o 9 (.build [.os 1 [], .v (.int .i64 (0))] [(0, 1)]) [.t 8], .o 10 .box [.t 9], .m 2 10]) <| .ret
theorem VC : cFn Tryz.prog OL 11 [.t 2] KG := ⟨Tryz.f43, _, Tryz.func43, rfl, by kernel_rfl, by kernel_rfl, by kernel_rfl, by kernel_rfl⟩
@[simp] abbrev Cv : Nat := 54
def CB : BCode := (BCode.seq (BCode.base (ACode.reg [ (AOper.mk (some 4) AK.mv [(Opd.c (AV.v (Go.Value.int Go.IntKind.i64 0)))] none)])) (BCode.seq (BCode.base (ACode.reg [ (AOper.mk (some 7) AK.mv [(Opd.t 0)] none), (AOper.mk (some 8) AK.mv [(Opd.t 0)] none), (AOper.mk (some 9) AK.nilck [(Opd.t 8)] none), (AOper.mk (some 10) (AK.fadr 1) [(Opd.t 9)] none), (AOper.mk (some 11) (AK.load false 1) [(Opd.t 10)] none), (AOper.mk (some 12) (AK.bin Go.BinOp.add 0) [(Opd.t 11), (Opd.c (AV.v (Go.Value.int Go.IntKind.i64 1)))] none), (AOper.mk (some 13) AK.nilck [(Opd.t 7)] none), (AOper.mk (some 14) (AK.fadr 1) [(Opd.t 13)] none), (AOper.mk none (AK.store 1) [(Opd.t 14), (Opd.t 12)] none)])) (BCode.seq (BCode.base (ACode.seq (ACode.reg [ (AOper.mk (some 15) AK.mv [(Opd.t 1)] none), (AOper.mk (some 16) (AK.bin Go.BinOp.lss 0) [(Opd.t 15), (Opd.c (AV.v (Go.Value.int Go.IntKind.i64 1)))] none), (AOper.mk (some 17) AK.mv [(Opd.t 16)] none), (AOper.mk (some 18) AK.mv [(Opd.t 0)] (some (17, false))), (AOper.mk (some 19) AK.nilck [(Opd.t 18)] (some (17, false))), (AOper.mk (some 20) (AK.fadr 0) [(Opd.t 19)] (some (17, false))), (AOper.mk (some 21) (AK.load false 1) [(Opd.t 20)] (some (17, false))), (AOper.mk (some 22) (AK.len false) [(Opd.t 21)] (some (17, false))), (AOper.mk (some 23) (AK.bin Go.BinOp.eql 0) [(Opd.t 22), (Opd.c (AV.v (Go.Value.int Go.IntKind.i64 0)))] (some (17, false))), (AOper.mk (some 24) AK.pick [(Opd.t 17), (Opd.c (AV.v (Go.Value.bool true))), (Opd.t 23)] none)]) (ACode.cond (Opd.t 24) (ACode.seq (ACode.reg [ (AOper.mk (some 4) AK.mv [(Opd.c (AV.v (Go.Value.int Go.IntKind.i64 0)))] none)]) ACode.ret) ACode.skip))) (BCode.seq (BCode.base (ACode.reg [ (AOper.mk (some 25) AK.mv [(Opd.t 0)] none), (AOper.mk (some 26) AK.nilck [(Opd.t 25)] none), (AOper.mk (some 27) (AK.fadr 1) [(Opd.t 26)] none), (AOper.mk (some 28) (AK.load false 1) [(Opd.t 27)] none), (AOper.mk (some 29) (AK.bin Go.BinOp.sub 0) [(Opd.t 28), (Opd.c (AV.v (Go.Value.int Go.IntKind.i64 1)))] none), (AOper.mk (some 5) AK.mv [(Opd.t 29)] none)])) (BCode.seq (BCode.base (ACode.seq (ACode.reg [ (AOper.mk (some 30) AK.mv [(Opd.t 5)] none), (AOper.mk (some 31) AK.mv [(Opd.t 0)] none), (AOper.mk (some 32) AK.nilck [(Opd.t 31)] none), (AOper.mk (some 33) (AK.fadr 0) [(Opd.t 32)] none), (AOper.mk (some 34) (AK.load false 1) [(Opd.t 33)] none), (AOper.mk (some 35) (AK.len false) [(Opd.t 34)] none), (AOper.mk (some 36) (AK.bin Go.BinOp.lss 0) [(Opd.t 30), (Opd.t 35)] none)]) (ACode.cond (Opd.t 36) (ACode.seq (ACode.reg [ (AOper.mk (some 37) AK.mv [(Opd.t 0)] none), (AOper.mk (some 38) AK.nilck [(Opd.t 37)] none), (AOper.mk (some 39) (AK.fadr 0) [(Opd.t 38)] none), (AOper.mk (some 40) (AK.load false 1) [(Opd.t 39)] none), (AOper.mk (some 41) AK.mv [(Opd.t 5)] none), (AOper.mk (some 42) (AK.iadr 1) [(Opd.t 40), (Opd.t 41)] none), (AOper.mk (some 43) (AK.load false 1) [(Opd.t 42)] none), (AOper.mk (some 44) (AK.conv Go.IntKind.i64) [(Opd.t 43)] none), (AOper.mk (some 45) AK.mv [(Opd.t 1)] none), (AOper.mk (some 46) (AK.bin Go.BinOp.rem 0) [(Opd.t 44), (Opd.t 45)] none), (AOper.mk (some 4) AK.mv [(Opd.t 46)] none)]) ACode.ret) ACode.skip))) (BCode.seq (BCode.pure [ (AOper.mk (some 47) AK.mv [(Opd.t 0)] none), (AOper.mk (some 48) AK.nilck [(Opd.t 47)] none), (AOper.mk (some 49) (AK.fadr 0) [(Opd.t 48)] none), (AOper.mk (some 50) (AK.load false 1) [(Opd.t 49)] none), (AOper.mk (some 51) AK.mv [(Opd.t 5)] none), (AOper.mk (some 52) AK.mv [(Opd.t 0)] none), (AOper.mk (some 53) AK.nilck [(Opd.t 52)] none), (AOper.mk (some 54) (AK.fadr 0) [(Opd.t 53)] none), (AOper.mk (some 55) (AK.load false 1) [(Opd.t 54)] none), (AOper.mk (some 56) (AK.len false) [(Opd.t 55)] none), (AOper.mk (some 57) (AK.bin Go.BinOp.rem 0) [(Opd.t 51), (Opd.t 56)] none), (AOper.mk (some 58) (AK.iadr 1) [(Opd.t 50), (Opd.t 57)] none), (AOper.mk (some 59) (AK.load false 1) [(Opd.t 58)] none), (AOper.mk (some 60) (AK.conv Go.IntKind.i64) [(Opd.t 59)] none), (AOper.mk (some 61) (AK.bin Go.BinOp.mul 0) [(Opd.t 60), (Opd.c (AV.v (Go.Value.int Go.IntKind.i64 131)))] none), (AOper.mk (some 62) AK.mv [(Opd.t 0)] none), (AOper.mk (some 63) AK.nilck [(Opd.t 62)] none), (AOper.mk (some 64) (AK.fadr 0) [(Opd.t 63)] none), (AOper.mk (some 65) (AK.load false 1) [(Opd.t 64)] none), (AOper.mk (some 66) AK.mv [(Opd.t 5)] none), (AOper.mk (some 67) (AK.bin Go.BinOp.mul 0) [(Opd.t 66), (Opd.c (AV.v (Go.Value.int Go.IntKind.i64 7)))] none), (AOper.mk (some 68) (AK.bin Go.BinOp.add 0) [(Opd.t 67), (Opd.c (AV.v (Go.Value.int Go.IntKind.i64 3)))] none), (AOper.mk (some 69) AK.mv [(Opd.t 0)] none), (AOper.mk (some 70) AK.nilck [(Opd.t 69)] none), (AOper.mk (some 71) (AK.fadr 0) [(Opd.t 70)] none), (AOper.mk (some 72) (AK.load false 1) [(Opd.t 71)] none), (AOper.mk (some 73) (AK.len false) [(Opd.t 72)] none), (AOper.mk (some 74) (AK.bin Go.BinOp.rem 0) [(Opd.t 68), (Opd.t 73)] none), (AOper.mk (some 75) (AK.iadr 1) [(Opd.t 65), (Opd.t 74)] none), (AOper.mk (some 76) (AK.load false 1) [(Opd.t 75)] none), (AOper.mk (some 77) (AK.conv Go.IntKind.i64) [(Opd.t 76)] none), (AOper.mk (some 78) (AK.bin Go.BinOp.mul 0) [(Opd.t 77), (Opd.c (AV.v (Go.Value.int Go.IntKind.i64 1117)))] none), (AOper.mk (some 79) (AK.bin Go.BinOp.add 0) [(Opd.t 61), (Opd.t 78)] none), (AOper.mk (some 80) AK.mv [(Opd.t 5)] none), (AOper.mk (some 81) (AK.bin Go.BinOp.mul 0) [(Opd.t 80), (Opd.c (AV.v (Go.Value.int Go.IntKind.i64 29)))] none), (AOper.mk (some 82) (AK.bin Go.BinOp.add 0) [(Opd.t 79), (Opd.t 81)] none), (AOper.mk (some 83) AK.mv [(Opd.t 5)] none), (AOper.mk (some 84) AK.mv [(Opd.t 0)] none), (AOper.mk (some 85) AK.nilck [(Opd.t 84)] none), (AOper.mk (some 86) (AK.fadr 0) [(Opd.t 85)] none), (AOper.mk (some 87) (AK.load false 1) [(Opd.t 86)] none), (AOper.mk (some 88) (AK.len false) [(Opd.t 87)] none), (AOper.mk (some 89) (AK.bin Go.BinOp.quo 0) [(Opd.t 83), (Opd.t 88)] none), (AOper.mk (some 90) (AK.bin Go.BinOp.mul 0) [(Opd.t 89), (Opd.c (AV.v (Go.Value.int Go.IntKind.i64 53)))] none), (AOper.mk (some 91) (AK.bin Go.BinOp.add 0) [(Opd.t 82), (Opd.t 90)] none), (AOper.mk (some 6) AK.mv [(Opd.t 91)] none)]) (BCode.base (ACode.seq (ACode.reg [ (AOper.mk (some 92) AK.mv [(Opd.t 6)] none), (AOper.mk (some 93) AK.mv [(Opd.t 6)] none), (AOper.mk (some 94) (AK.bin Go.BinOp.quo 0) [(Opd.t 93), (Opd.c (AV.v (Go.Value.int Go.IntKind.i64 64)))] none), (AOper.mk (some 95) (AK.bin Go.BinOp.xor 0) [(Opd.t 92), (Opd.t 94)] none), (AOper.mk (some 6) AK.mv [(Opd.t 95)] none)]) (ACode.seq (ACode.reg [ (AOper.mk (some 96) AK.mv [(Opd.t 6)] none), (AOper.mk (some 97) AK.mv [(Opd.t 1)] none), (AOper.mk (some 98) (AK.bin Go.BinOp.rem 0) [(Opd.t 96), (Opd.t 97)] none), (AOper.mk (some 4) AK.mv [(Opd.t 98)] none)]) ACode.ret)))))))))
theorem RO : gM Tryz.prog Cv 99 [(RV.t 4)] CB := ⟨Tryz.f54, _, Tryz.func54, rfl, by kernel_rfl, by kernel_rfl, by kernel_rfl, by kernel_rfl⟩
@[simp] abbrev L0 : Nat := 45
def HU : ACode := .seq (.reg [.o 4 .mv [.kb false]]) <| .seq (.reg [.m 5 1, .o 6 (.bin .gtr 0) [.t 5, .k 0], .m 7 6, .mg 8 0 7 true, .mg 9 1 7 true, .g 10 (.call 54 []) [.t 8, .t 9] 7 true, .mg 11 1 7 true, .g 12 (.bin .sub 0) [.t 11, .k 1] 7 true, .g 13 (.bin .eql 0) [.t 10, .t 12] 7 true, .o 14 .pick [.t 7, .t 13, .kb false], .m 4 14]) <| .ret
theorem ST : cFn Tryz.prog L0 15 [.t 4] HU := ⟨Tryz.f45, _, Tryz.func45, rfl, by kernel_rfl, by kernel_rfl, by kernel_rfl, by kernel_rfl⟩
@[simp] abbrev Gv : Nat := 141
def Kr : ACode := .seq (.reg [.m 40 8, .m 41 2, .o 42 (.iadr 1) [.t 40, .t 41], .s (.store 1) [.t 42, .k 0]]) <| .seq (.reg [.m 43 8, .m 6 43, .o 7 .mv [.kb true]]) <| .ret
abbrev Ks : Plan := .al (.o 38 (.call 169 []) [.t 32, .t 33, .t 37]) ( .take (.o 39 (.iadr 1) [.t 31, .t 38]) <| .al (.s (.store 1) [.t 39, .k 0]) ( .done))
def KH : ACode := .seq (.reg [.o 3 .box [.t 0], .o 6 .mv [.c (.os 1 [])], .o 7 .mv [.kb false]]) <| .seq (.seq (.reg [.la 9 3 3, .m 10 1, .o 11 (.call 122 []) [.t 9, .t 10], .o 12 (.un .not) [.t 11]]) <| .cond (.t 12) ( .seq (.reg [.o 13 (.bsl 1) [], .m 6 13, .o 7 .mv [.kb false]]) <| .ret) ( .skip)) <| .seq (.reg [.o 14 (.bsl 1) [], .m 15 1, .o 16 (.app 1 8 true) [.t 14, .t 15], .m 8 16]) <| .seq (.seq (.reg [.m 17 2, .m 18 1, .n 19 18, .o 20 (.bin .sub 0) [.t 19, .k 1], .o 21 (.call 106 []) [.t 17, .k 0, .t 20], .o 22 (.un .not) [.t 21], .m 23 22, .mg 24 1 23 false, .mg 25 2 23 false, .g 26 (.iadr 1) [.t 24, .t 25] 23 false, .lg 27 26 23 false, .g 28 (.bin .eql 0) [.t 27, .k 0] 23 false, .o 29 .pick [.t 23, .kb true, .t 28]]) <| .cond (.t 29) ( .seq (.reg [.m 30 8, .m 6 30, .o 7 .mv [.kb false]]) <| .ret) ( .skip)) <| .seq (.draw ( .take (.m 31 8) <| .take (.m 33 2) <| .take (.m 34 1) <| .take (.m 35 2) <| .take (.o 36 (.iadr 1) [.t 34, .t 35]) <| .alt (.la 32 3 3) ( .al (.l 37 36) Ks) <| .al (.l 37 36) ( .al (.la 32 3 3) Ks))) <| .gc [] [2, 8] Kr
theorem OM : cFn Tryz.prog Gv 44 [.t 6, .t 7] KH := ⟨Tryz.f141, _, Tryz.func141, rfl, by kernel_rfl, by kernel_rfl, by kernel_rfl, by kernel_rfl⟩
@[simp] abbrev L1 : Nat := 221
def DC : ACode := .seq (.seq (.reg [.m 25 6, .m 26 0, .m 27 1, .o 28 (.bin .mul 0) [.t 26, .t 27], .o 29 (.bin .lss 0) [.t 25, .t 28]]) <| .cond (.t 29) ( .skip) ( .exit 0)) <| .seq (.block 1 ( .reg [.f 32 2 5, .l 33 32, .o 34 (.bsl 1) [.kb true], .o 35 (.app 1 1 true) [.t 33, .t 34], .f 36 2 5, .s (.store 1) [.t 36, .t 35]])) <| .reg [.m 30 6, .o 31 (.bin .add 0) [.t 30, .k 1], .m 6 31]
def L2 : ACode := .seq (.reg [.o 4 (.alloc rz) []]) <| .seq (.seq (.reg [.m 7 0, .o 8 (.call 106 []) [.t 7, .k 1, .k 6], .o 9 (.un .not) [.t 8], .m 10 9, .mg 11 1 10 false, .g 12 (.call 106 []) [.t 11, .k 1, .k 6] 10 false, .g 13 (.un .not) [.t 12] 10 false, .o 14 .pick [.t 10, .kb true, .t 13], .m 15 14, .mg 16 0 15 false, .mg 17 1 15 false, .g 18 (.bin .mul 0) [.t 16, .t 17] 15 false, .g 19 (.bin .gtr 0) [.t 18, .k 24] 15 false, .o 20 .pick [.t 15, .kb true, .t 19]]) <| .cond (.t 20) ( .seq (.reg [.o 21 (.build rz []) [], .s (.store 3) [.t 4, .t 21]]) <| .ret) ( .skip)) <| .seq (.reg [.m 22 0, .m 23 1, .o 24 (.build rz [(0, 1), (1, 1)]) [.t 22, .t 23], .o 5 (.alloc rz) [], .s (.store 3) [.t 5, .t 24]]) <| .seq (.seq (.reg [.o 6 .mv [.k 0]]) <| .block 0 ( .loop [] [0, 1, 4, 5, 6] DC)) <| .seq (.reg [.la 37 3 5, .s (.store 3) [.t 4, .t 37]]) <| .ret
theorem SU : cFn Tryz.prog L1 38 [.c 4 true 3] L2 := ⟨Tryz.f221, _, Tryz.func221, rfl, by kernel_rfl, by kernel_rfl, by kernel_rfl, by kernel_rfl⟩
@[simp] abbrev Jj : Nat := 165
abbrev FK : Plan := .take (.g 134 (.bin .neq 0) [.t 129, .t 133] 125 true) <| .take (.o 135 .pick [.t 125, .t 134, .kb false]) <| .done
def CT : ACode := .seq (.seq (.draw ( .take (.m 121 15) <| .take (.m 122 6) <| .take (.n 123 122) <| .take (.o 124 (.bin .lss 0) [.t 121, .t 123]) <| .take (.m 125 124) <| .take (.mg 126 6 125 true) <| .take (.mg 127 15 125 true) <| .take (.g 128 (.iadr 1) [.t 126, .t 127] 125 true) <| .take (.mg 130 11 125 true) <| .take (.mg 131 14 125 true) <| .take (.g 132 (.iadr 1) [.t 130, .t 131] 125 true) <| .alt (.lg 129 128 125 true) ( .al (.lg 133 132 125 true) FK) <| .al (.lg 133 132 125 true) ( .al (.lg 129 128 125 true) FK))) <| .cond (.t 135) ( .skip) ( .exit 7)) <| .block 8 ( .reg [.m 136 15, .o 137 (.bin .add 0) [.t 136, .k 1], .m 15 137])
abbrev FL : Plan := .take (.o 162 (.bin .add 0) [.t 157, .t 161]) <| .take (.o 163 (.iadr 1) [.t 152, .t 153]) <| .al (.s (.store 1) [.t 163, .t 162]) ( .done)
def CU : ACode := .seq (.seq (.reg [.m 115 14, .m 116 11, .n 117 116, .o 118 (.bin .lss 0) [.t 115, .t 117]]) <| .cond (.t 118) ( .skip) ( .exit 5)) <| .seq (.block 6 ( .seq (.reg [.o 15 .mv [.k 0]]) <| .seq (.block 7 ( .loop [(3, 1), (4, 1), (6, 1), (7, 1), (11, 1)] [1, 3, 4, 5, 6, 7, 8, 11, 14, 15] CT)) <| .seq (.seq (.reg [.m 138 15, .m 139 6, .n 140 139, .o 141 (.bin .eql 0) [.t 138, .t 140]]) <| .cond (.t 141) ( .seq (.reg [.m 142 6, .m 143 11, .m 144 14, .o 145 (.iadr 1) [.t 143, .t 144], .l 146 145, .o 147 (.bsl 1) [.t 146], .o 148 (.app 1 8 true) [.t 142, .t 147], .m 6 148]) <| .reg [.m 149 7, .o 150 (.bsl 1) [.k 0], .o 151 (.app 1 8 true) [.t 149, .t 150], .m 7 151]) ( .skip)) <| .draw ( .take (.m 152 7) <| .take (.m 153 15) <| .take (.m 154 7) <| .take (.m 155 15) <| .take (.o 156 (.iadr 1) [.t 154, .t 155]) <| .take (.m 158 4) <| .take (.m 159 8) <| .take (.o 160 (.iadr 1) [.t 158, .t 159]) <| .alt (.l 157 156) ( .al (.l 161 160) FL) <| .al (.l 161 160) ( .al (.l 157 156) FL)))) <| .reg [.m 119 14, .o 120 (.bin .add 0) [.t 119, .k 1], .m 14 120]
def BD : ACode := .seq (.seq (.reg [.m 32 8, .m 33 3, .n 34 33, .o 35 (.bin .lss 0) [.t 32, .t 34]]) <| .cond (.t 35) ( .skip) ( .exit 2)) <| .seq (.block 3 ( .seq (.reg [.m 38 3, .m 39 8, .o 40 (.iadr 1) [.t 38, .t 39], .l 41 40, .m 9 41]) <| .seq (.reg [.m 42 9, .o 43 (.bin .rem 0) [.t 42, .k 2], .o 44 (.bin .eql 0) [.t 43, .k 1], .m 10 44]) <| .seq (.reg [.o 45 (.bsl 1) [], .m 11 45]) <| .seq (.block 4 ( .seq (.reg [.m 101 10, .m 102 101, .fg 103 2 1 102 false, .lg 104 103 102 false, .mg 105 5 102 false, .g 106 (.iadr 1) [.t 104, .t 105] 102 false, .lg 107 106 102 false, .g 108 (.un .not) [.t 107] 102 false, .o 109 .pick [.t 102, .kb true, .t 108], .m 100 109]) <| .cond (.t 100) ( .reg [.m 110 11, .m 111 9, .o 112 (.bin .quo 0) [.t 111, .k 2], .o 113 (.bsl 1) [.t 112], .o 114 (.app 1 8 true) [.t 110, .t 113], .m 11 114]) ( .seq (.reg [.la 46 3 1, .m 47 5, .o 48 (.call 169 []) [.t 46, .t 47, .k 1], .m 12 48]) <| .seq (.reg [.la 49 3 1, .m 50 5, .o 51 (.call 169 []) [.t 49, .t 50, .k 2], .m 13 51]) <| .seq (.seq (.reg [.m 52 12, .o 53 (.bin .geq 0) [.t 52, .k 0], .m 54 53, .fg 55 2 1 54 true, .lg 56 55 54 true, .mg 57 12 54 true, .g 58 (.iadr 1) [.t 56, .t 57] 54 true, .lg 59 58 54 true, .o 60 .pick [.t 54, .t 59, .kb false], .m 61 60, .mg 62 9 61 true, .g 63 (.bin .quo 0) [.t 62, .k 2] 61 true, .g 64 (.bin .rem 0) [.t 63, .k 2] 61 true, .g 65 (.bin .eql 0) [.t 64, .k 0] 61 true, .o 66 .pick [.t 61, .t 65, .kb false]]) <| .cond (.t 66) ( .reg [.m 67 11, .m 68 9, .o 69 (.bin .quo 0) [.t 68, .k 2], .o 70 (.bin .add 0) [.t 69, .k 1], .o 71 (.bsl 1) [.t 70], .o 72 (.app 1 8 true) [.t 67, .t 71], .m 11 72]) ( .skip)) <| .seq (.reg [.m 73 13, .o 74 (.bin .geq 0) [.t 73, .k 0], .m 75 74, .fg 76 2 1 75 true, .lg 77 76 75 true, .mg 78 13 75 true, .g 79 (.iadr 1) [.t 77, .t 78] 75 true, .lg 80 79 75 true, .o 81 .pick [.t 75, .t 80, .kb false], .m 82 81, .mg 83 9 82 true, .fg 84 0 1 82 true, .lg 85 84 82 true, .g 86 (.bin .shr 0) [.t 83, .t 85] 82 true, .g 87 (.bin .rem 0) [.t 86, .k 2] 82 true, .g 88 (.bin .eql 0) [.t 87, .k 0] 82 true, .o 89 .pick [.t 82, .t 88, .kb false]]) <| .cond (.t 89) ( .reg [.m 90 11, .m 91 9, .o 92 (.bin .quo 0) [.t 91, .k 2], .f 93 0 1, .l 94 93, .o 95 (.bin .sub 0) [.t 94, .k 1], .o 96 (.bin .shl 0) [.k 1, .t 95], .o 97 (.bin .add 0) [.t 92, .t 96], .o 98 (.bsl 1) [.t 97], .o 99 (.app 1 8 true) [.t 90, .t 98], .m 11 99]) ( .skip)))) <| .seq (.reg [.o 14 .mv [.k 0]]) <| .block 5 ( .loop [(3, 1), (4, 1), (6, 1), (7, 1), (11, 1)] [1, 3, 4, 5, 6, 7, 8, 11, 14] CU))) <| .reg [.m 36 8, .o 37 (.bin .add 0) [.t 36, .k 1], .m 8 37]
def D7 : ACode := .seq (.seq (.reg [.m 23 5, .f 24 2 1, .l 25 24, .n 26 25, .o 27 (.bin .lss 0) [.t 23, .t 26]]) <| .cond (.t 27) ( .skip) ( .exit 0)) <| .seq (.block 1 ( .seq (.reg [.o 30 (.bsl 1) [], .m 6 30]) <| .seq (.reg [.o 31 (.bsl 1) [], .m 7 31]) <| .seq (.seq (.reg [.o 8 .mv [.k 0]]) <| .block 2 ( .loop [(3, 1), (4, 1), (6, 1), (7, 1)] [1, 3, 4, 5, 6, 7, 8] BD)) <| .seq (.reg [.m 164 6, .m 3 164]) <| .reg [.m 165 7, .m 4 165])) <| .reg [.m 28 5, .o 29 (.bin .add 0) [.t 28, .k 1], .m 5 29]
def D8 : ACode := .seq (.seq (.reg [.m 166 17, .m 167 3, .n 168 167, .o 169 (.bin .lss 0) [.t 166, .t 168]]) <| .cond (.t 169) ( .skip) ( .exit 9)) <| .seq (.block 10 ( .seq (.reg [.m 172 3, .m 173 17, .o 174 (.iadr 1) [.t 172, .t 173], .l 175 174, .o 176 (.bin .eql 0) [.t 175, .k 0]]) <| .cond (.t 176) ( .reg [.m 177 16, .m 178 4, .m 179 17, .o 180 (.iadr 1) [.t 178, .t 179], .l 181 180, .o 182 (.bin .add 0) [.t 177, .t 181], .m 16 182]) ( .skip))) <| .reg [.m 170 17, .o 171 (.bin .add 0) [.t 170, .k 1], .m 17 171]
def Jk : ACode := .seq (.reg [.o 1 .box [.t 0], .o 2 .mv [.k 0]]) <| .seq (.seq (.reg [.la 18 3 1, .o 19 (.call 168 []) [.t 18], .o 20 (.un .not) [.t 19]]) <| .cond (.t 20) ( .seq (.reg [.o 2 .mv [.k (-1)]]) <| .ret) ( .skip)) <| .seq (.reg [.o 21 (.bsl 1) [.k 0], .m 3 21]) <| .seq (.reg [.o 22 (.bsl 1) [.k 1], .m 4 22]) <| .seq (.seq (.reg [.o 5 .mv [.k 0]]) <| .block 0 ( .loop [(3, 1), (4, 1)] [1, 3, 4, 5] D7)) <| .seq (.reg [.o 16 .mv [.k 0]]) <| .seq (.seq (.reg [.o 17 .mv [.k 0]]) <| .block 9 ( .loop [(3, 1), (4, 1)] [3, 4, 16, 17] D8)) <| .seq (.reg [.m 183 16, .m 2 183]) <| .ret
theorem QU : cFn Tryz.prog Jj 184 [.t 2] Jk := ⟨Tryz.f165, _, Tryz.func165, rfl, by kernel_rfl, by kernel_rfl, by kernel_rfl, by kernel_rfl⟩
@[simp] abbrev QV : Nat := 256
abbrev Ii : Plan := .take (.o 28 (.iadr 1) [.t 23, .t 27]) <| .al (.s (.store 1) [.t 28, .kb false]) ( .done)
def HV : ACode := .seq (.seq (.reg [.m 16 6, .m 17 1, .n 18 17, .o 19 (.bin .lss 0) [.t 16, .t 18]]) <| .cond (.t 19) ( .skip) ( .exit 0)) <| .seq (.block 1 ( .draw ( .take (.f 22 2 5) <| .take (.m 24 1) <| .take (.m 25 6) <| .take (.o 26 (.iadr 1) [.t 24, .t 25]) <| .alt (.l 23 22) ( .al (.l 27 26) Ii) <| .al (.l 27 26) ( .al (.l 23 22) Ii)))) <| .reg [.m 20 6, .o 21 (.bin .add 0) [.t 20, .k 1], .m 6 21]
def L3 : ACode := .seq (.seq (.reg [.o 6 .mv [.k 0]]) <| .block 0 ( .loop [(1, 1)] [1, 4, 5, 6] HV)) <| .seq (.reg [.la 29 3 5, .s (.store 3) [.t 4, .t 29]]) <| .ret
def NC : BCode := .seq (.base (.reg [.o 2 .box [.t 0], .o 4 (.alloc rz) []])) <| .frz 2 <| .seq (BCode.early [ (AOper.mk (some 7) (AK.fadr 0) [(Opd.t 2)] none),  (AOper.mk (some 8) (AK.load false 1) [(Opd.t 7)] none), (AOper.mk (some 9) (AK.fadr 1) [(Opd.t 2)] none),  (AOper.mk (some 10) (AK.load false 1) [(Opd.t 9)] none),  (AOper.mk (some 12) (AK.fadr 2) [(Opd.t 2)] none), (AOper.mk (some 13) (AK.load false 1) [(Opd.t 12)] none)]  (Plan.alt  (AOper.mk (some 11) (AK.bsl 1) [] none)  (Plan.alt  (AOper.mk (some 14) (AK.app 1 1 true) [(Opd.t 11), (Opd.t 13)] none) (Plan.take  (AOper.mk (some 15) (AK.build [(AV.v (Go.Value.int Go.IntKind.i64 0)), (AV.v (Go.Value.int Go.IntKind.i64 0)), (AV.os 1 [])] [(0, 1), (1, 1), (2, 1)]) [(Opd.t 8), (Opd.t 10), (Opd.t 14)] none)  (Plan.alt  (AOper.mk (some 5) (AK.alloc [(AV.v (Go.Value.int Go.IntKind.i64 0)), (AV.v (Go.Value.int Go.IntKind.i64 0)), (AV.os 1 [])]) [] none)  (Plan.alt  (AOper.mk none (AK.store 3) [(Opd.t 5), (Opd.t 15)] none) Plan.done Plan.stop) Plan.stop))  (Plan.alt  (AOper.mk (some 5) (AK.alloc [(AV.v (Go.Value.int Go.IntKind.i64 0)), (AV.v (Go.Value.int Go.IntKind.i64 0)), (AV.os 1 [])]) [] none)  (Plan.alt  (AOper.mk (some 14) (AK.app 1 1 true) [(Opd.t 11), (Opd.t 13)] none) (Plan.take  (AOper.mk (some 15) (AK.build [(AV.v (Go.Value.int Go.IntKind.i64 0)), (AV.v (Go.Value.int Go.IntKind.i64 0)), (AV.os 1 [])] [(0, 1), (1, 1), (2, 1)]) [(Opd.t 8), (Opd.t 10), (Opd.t 14)] none)  (Plan.alt  (AOper.mk none (AK.store 3) [(Opd.t 5), (Opd.t 15)] none) Plan.done Plan.stop)) Plan.stop) Plan.stop))  (Plan.alt  (AOper.mk (some 5) (AK.alloc [(AV.v (Go.Value.int Go.IntKind.i64 0)), (AV.v (Go.Value.int Go.IntKind.i64 0)), (AV.os 1 [])]) [] none)  (Plan.alt  (AOper.mk (some 11) (AK.bsl 1) [] none)  (Plan.alt  (AOper.mk (some 14) (AK.app 1 1 true) [(Opd.t 11), (Opd.t 13)] none) (Plan.take  (AOper.mk (some 15) (AK.build [(AV.v (Go.Value.int Go.IntKind.i64 0)), (AV.v (Go.Value.int Go.IntKind.i64 0)), (AV.os 1 [])] [(0, 1), (1, 1), (2, 1)]) [(Opd.t 8), (Opd.t 10), (Opd.t 14)] none)  (Plan.alt  (AOper.mk none (AK.store 3) [(Opd.t 5), (Opd.t 15)] none) Plan.done Plan.stop)) Plan.stop) Plan.stop) Plan.stop))) <| .base (.gc [] [1, 4, 5] L3)
theorem XG : gM Tryz.prog QV 30 [.c 4 true 3] NC := ⟨Tryz.f256, _, Tryz.func256, rfl, by kernel_rfl, by kernel_rfl, by kernel_rfl, by kernel_rfl⟩
@[simp] abbrev QW : Nat := 223
def E3 : ACode := .seq (.seq (.reg [.m 8 6, .m 9 1, .n 10 9, .o 11 (.bin .lss 0) [.t 8, .t 10]]) <| .cond (.t 11) ( .skip) ( .exit 0)) <| .seq (.block 1 ( .seq (.reg [.m 14 1, .m 15 6, .o 16 (.iadr 1) [.t 14, .t 15], .l 17 16, .o 18 (.bin .neq 0) [.t 17, .k 0]]) <| .cond (.t 18) ( .reg [.m 19 5, .m 20 6, .o 21 (.bsl 1) [.t 20], .o 22 (.app 1 8 true) [.t 19, .t 21], .m 5 22]) ( .skip))) <| .reg [.m 12 6, .o 13 (.bin .add 0) [.t 12, .k 1], .m 6 13]
def QX : ACode := .seq (.reg [.o 2 .box [.t 0], .o 4 .mv [.k 0]]) <| .seq (.reg [.o 7 (.bsl 1) [], .m 5 7]) <| .seq (.seq (.reg [.o 6 .mv [.k 0]]) <| .block 0 ( .loop [(1, 1), (5, 1)] [1, 2, 5, 6] E3)) <| .seq (.reg [.la 23 3 2, .m 24 5, .o 25 (.call 256 []) [.t 23, .t 24], .o 26 (.call 165 []) [.t 25], .m 4 26]) <| .ret
theorem XH : cFn Tryz.prog QW 27 [.t 4] QX := ⟨Tryz.f223, _, Tryz.func223, rfl, by kernel_rfl, by kernel_rfl, by kernel_rfl, by kernel_rfl⟩
@[simp] abbrev ND : Nat := 164
def Fn : ACode := .seq (.seq (.reg [.m 30 7, .o 31 (.bin .geq 0) [.t 30, .k 0]]) <| .cond (.t 31) ( .skip) ( .exit 0)) <| .seq (.block 1 ( .seq (.reg [.la 36 3 2, .m 37 6, .m 38 7, .o 39 (.call 140 []) [.t 36, .t 37, .t 38, .k 1], .m 35 39, .e 40 0 35, .e 41 1 35, .m 8 40, .m 9 41]) <| .seq (.reg [.o 10 .mv [.k 0]]) <| .seq (.seq (.reg [.m 42 9]) <| .cond (.t 42) ( .reg [.la 43 3 2, .m 44 8, .o 45 (.call 223 []) [.t 43, .t 44], .m 10 45]) ( .skip)) <| .seq (.seq (.reg [.m 46 1, .m 47 10, .o 48 (.bin .geq 0) [.t 46, .t 47]]) <| .cond (.t 48) ( .seq (.reg [.m 49 1, .m 50 10, .o 51 (.bin .sub 0) [.t 49, .t 50], .m 1 51]) <| .seq (.reg [.la 53 3 2, .m 54 6, .m 55 7, .o 56 (.call 140 []) [.t 53, .t 54, .t 55, .k 2], .m 52 56, .e 57 0 52, .e 58 1 52, .m 11 57, .m 12 58]) <| .reg [.m 59 11, .m 8 59]) ( .skip)) <| .reg [.m 60 8, .m 6 60])) <| .reg [.la 32 3 2, .m 33 6, .o 34 (.call 222 []) [.t 32, .t 33], .m 7 34]
def NE : ACode := .seq (.reg [.o 2 .box [.t 0], .o 4 .mv [.c (.os 1 [])], .o 5 .mv [.kb false]]) <| .seq (.seq (.reg [.la 13 3 2, .o 14 (.call 168 []) [.t 13], .o 15 (.un .not) [.t 14], .m 16 15, .mg 17 1 16 false, .g 18 (.load true 3) [.t 2] 16 false, .g 19 (.call 165 []) [.t 18] 16 false, .g 20 (.bin .sub 0) [.t 19, .k 1] 16 false, .g 21 (.call 106 []) [.t 17, .k 0, .t 20] 16 false, .g 22 (.un .not) [.t 21] 16 false, .o 23 .pick [.t 16, .kb true, .t 22]]) <| .cond (.t 23) ( .seq (.reg [.o 24 (.bsl 1) [], .m 4 24, .o 5 .mv [.kb false]]) <| .ret) ( .skip)) <| .seq (.reg [.la 25 3 2, .o 26 (.call 146 []) [.t 25], .m 6 26]) <| .seq (.seq (.reg [.la 27 3 2, .m 28 6, .o 29 (.call 222 []) [.t 27, .t 28], .m 7 29]) <| .block 0 ( .loop [(6, 1)] [1, 2, 6, 7] Fn)) <| .seq (.reg [.m 61 6, .m 4 61, .o 5 .mv [.kb true]]) <| .ret
theorem UC : cFn Tryz.prog ND 62 [.t 4, .t 5] NE := ⟨Tryz.f164, _, Tryz.func164, rfl, by kernel_rfl, by kernel_rfl, by kernel_rfl, by kernel_rfl⟩
theorem Ij (xs ys : List Int) (ha : xs.length < 2 ^ 40) :
  SoundAt Tryz.prog NA [.sl 1 1 (AC xs), .sl 1 1 (AC ys)] (.v (.bool (decide (xs = ys)))) [.bot, .bot] := by
 refine AJ (md := md0) (ms := [false, false]) UB (by simp) ?_
 simp [NB]
 refine ⟨fun h => ?_, fun hl => ?_⟩
 ·intro e; subst e; exact h rfl
 refine AH (fun m E H => ∃ i : Nat, m = xs.length - i ∧ i ≤ xs.length ∧ xs.take i = ys.take i ∧ H = [] ∧ E = [(0, .sl 1 1 (AC xs)), (1, .sl 1 1 (AC ys)), (5, .v (.int .i64 i))]) xs.length ⟨0, by simp⟩ ?_
 rintro J hJ m E H ⟨i, rfl, hi, he, rfl, rfl⟩
 by_cases h : i < xs.length
 case neg =>
  have h1 : i = xs.length := by omega
  subst h1
  have e : xs = ys := by
   rw [List.take_length] at he
   rw [he]; exact List.take_of_length_le (by omega)
  simp [Dk, e]
 have h2 : i < ys.length := by omega
 have key : (ati xs i = ati ys i) → xs.take (i + 1) = ys.take (i + 1) := by
  intro e
  rw [List.take_succ_eq_append_getElem h, List.take_succ_eq_append_getElem (by omega), he]
  simp [ati, h, h2] at e
  rw [e]
 have key2 : ¬ (ati xs i = ati ys i) → ¬ xs = ys := fun e e2 => e (by rw [e2])
 by_cases e : ati xs i = ati ys i
 ·simp [Dk, h, h2, e]
  exact ⟨by omega, _, by omega, hJ _ _ _ ⟨i + 1, rfl, h, key e, rfl, rfl⟩⟩
 ·simp [Dk, h, h2, e, key2 e]
theorem SV (ps qs : List (List Int)) (ha : ps.length < 2 ^ 40) (hp : ∀ p ∈ ps, p.length < 2 ^ 40) :
  SoundAt Tryz.prog Lu [.sl 1 1 (sls 1 ps), .sl 1 1 (sls 1 qs)] (.v (.bool (decide (ps = qs)))) [.bot, .bot] := by
 refine AJ (md := md0) (ms := [false, false]) SQ (by simp) ?_
 simp [Lv]
 refine ⟨fun h => ?_, fun hl => ?_⟩
 ·intro e; subst e; exact h rfl
 refine AH (fun m E H => ∃ i : Nat, m = ps.length - i ∧ i ≤ ps.length ∧ ps.take i = qs.take i ∧ H = [] ∧ E = [(0, .sl 1 1 (sls 1 ps)), (1, .sl 1 1 (sls 1 qs)), (5, .v (.int .i64 i))]) ps.length ⟨0, by simp⟩ ?_
 rintro J hJ m E H ⟨i, rfl, hi, he, rfl, rfl⟩
 by_cases h : i < ps.length
 case neg =>
  have h1 : i = ps.length := by omega
  subst h1
  have e : ps = qs := by
   rw [List.take_length] at he
   rw [he]; exact List.take_of_length_le (by omega)
  simp [E9, e]
 have h2 : i < qs.length := by omega
 simp [E9, h, h2]
 have one := Ij (pti ps i) (pti qs i) (hp _ (ZF h))
 have key : (pti ps i = pti qs i) → ps.take (i + 1) = qs.take (i + 1) := by
  intro e
  rw [List.take_succ_eq_append_getElem h, List.take_succ_eq_append_getElem h2, he, ← Mx h, ← Mx h2, e]
 have key2 : ¬ (pti ps i = pti qs i) → ¬ ps = qs := fun e e2 => e (by rw [e2])
 (repeat' first | assumption | omega | apply And.intro) <;>
 ·refine AA one ?_
  by_cases e : pti ps i = pti qs i
  ·simp [e]
   exact ⟨by omega, _, by omega, hJ _ _ _ ⟨i + 1, rfl, h, key e, rfl, rfl⟩⟩
  ·simp [e, key2 e]
theorem SW (W T : Int) (cs : List Bool) (hb : cs.length < 2 ^ 40) :
  SoundAt Tryz.prog Lw [.agg [.v (.int .i64 W), .v (.int .i64 T), .sl 1 1 (AD cs)]] (.v (.int .i64 (if A3 W T cs = true then (BH cs : Int) else -1))) [.bot] := by
 refine AJ (md := md0) (ms := [false]) SR (by simp) ?_
 simp [Lx]
 refine AA (FZ W T cs hb) ?_
 cases hr : A3 W T cs with
 | false => simp
 | true =>
 simp
 refine AA (Ow cs hb) ?_
 simp
def kV (W T : Int) (cs : List Bool) (ls : List Int) (cell way : Int) : List Int := if (A3 W T cs && AU W T cs ls) = true then Av W T cs ls cell way else []
def ZM (W T : Int) (cs : List Bool) (ls : List Int) (cell way : Int) : Bool := A3 W T cs && AU W T cs ls && Ap W T cs ls cell way
theorem XI (W T : Int) (cs : List Bool) (ls : List Int) (cell way : Int) (hb : cs.length < 2 ^ 40) (hl : ls.length < 2 ^ 40) :
  SoundAt Tryz.prog QR [.agg [.v (.int .i64 W), .v (.int .i64 T), .sl 1 1 (AD cs)], .sl 1 1 (AC ls), .v (.int .i64 cell), .v (.int .i64 way)]
   (.tup [.os 1 (AC (kV W T cs ls cell way)), .v (.bool (ZM W T cs ls cell way))]) [.bot, .bot, .bot, .bot] := by
 refine AJ (md := md0) (ms := [false, false, false, false]) XF (by simp) ?_
 simp [QS]
 refine AA (LS W T cs ls hb hl) ?_
 cases hp : (A3 W T cs && AU W T cs ls) with
 | false =>
   have e1 : kV W T cs ls cell way = [] := by unfold kV; rw [hp]; rfl
   have e2 : ZM W T cs ls cell way = false := by unfold ZM; rw [hp]; rfl
   rw [e1, e2]; simp
 | true =>
 have e1 : kV W T cs ls cell way = Av W T cs ls cell way := by unfold kV; rw [hp]; rfl
 have e2 : ZM W T cs ls cell way = Ap W T cs ls cell way := by unfold ZM; rw [hp]; rfl
 rw [e1, e2]
 have h2 := hp
 simp only [AU, Bool.and_eq_true, decide_eq_true_eq] at h2
 simp
 refine AA (Dh W T cs ls cell way h2.1 h2.2.1) ?_
 cases hf : Ap W T cs ls cell way with
 | false =>
   simp [Av, hf]
   refine AA (Ak ls hl) ?_
   simp
 | true =>
   simp [Av, hf]
   refine AA (Cr W T cs ls cell way h2.1 h2.2.1 hf) ?_
   simp
def Ei (ls : List Int) (cell : Int) : Bool := decide (0 ≤ cell ∧ cell < ls.length ∧ ati ls cell ≠ 0)
def SX (W T : Int) (cs : List Bool) (ls : List Int) (cell : Int) : List Int := if (A3 W T cs && AU W T cs ls) = true then (if Ei ls cell = true then LR W T ls cell else ls) else []
def L4 (W T : Int) (cs : List Bool) (ls : List Int) (cell : Int) : Bool := A3 W T cs && AU W T cs ls && Ei ls cell
theorem QY (W T : Int) (cs : List Bool) (ls : List Int) (k : Nat) (hr : A3 W T cs = true) (hy : AU W T cs ls = true) (hk : k < ls.length) (hv : ati ls k ≠ 0) :
  SoundAt Tryz.prog Jh [.agg [.v (.int .i64 W), .v (.int .i64 T), .sl 1 1 (AD cs)], .sl 1 1 (AC ls), .v (.int .i64 k)] (.os 1 (AC (LR W T ls k))) [.bot, .bot, .bot] := by
 refine AJ (md := md0) (ms := [false, false, false]) QT (by simp) ?_
 have h36 := AZ hr
 have hl := Aj hy
 obtain ⟨t, e, ht, htk, _⟩ := XE hr hy hk hv
 have eL : LR W T ls k = (ls.set t 0).set k 0 := by unfold LR; rw [e]; simp
 rw [eL]
 simp [Ji]
 refine AA (Ak ls (by omega)) ?_
 have one := CL W T cs k (ati ls k) hr (by omega) (by omega)
 rw [e] at one
 simp [hk]
 (repeat' first | assumption | omega | apply And.intro) <;>
 ·refine AA one ?_
  have htk2 : (AC ((ls.set t 0).set k 0)).take ls.length = AC ((ls.set t 0).set k 0) := List.take_of_length_le (by simp)
  simp [ht, hk, Dd, HG, htk2]
theorem VD (W T : Int) (cs : List Bool) (ls : List Int) (cell : Int) (hb : cs.length < 2 ^ 40) (hl : ls.length < 2 ^ 40) :
  SoundAt Tryz.prog OJ [.agg [.v (.int .i64 W), .v (.int .i64 T), .sl 1 1 (AD cs)], .sl 1 1 (AC ls), .v (.int .i64 cell)]
   (.tup [.os 1 (AC (SX W T cs ls cell)), .v (.bool (L4 W T cs ls cell))]) [.bot, .bot, .bot] := by
 refine AJ (md := md0) (ms := [false, false, false]) VB (by simp) ?_
 simp [OK]
 refine AA (LS W T cs ls hb hl) ?_
 cases hp : (A3 W T cs && AU W T cs ls) with
 | false =>
   have e1 : SX W T cs ls cell = [] := by unfold SX; rw [hp]; rfl
   have e2 : L4 W T cs ls cell = false := by unfold L4; rw [hp]; rfl
   rw [e1, e2]; simp
 | true =>
 have e1 : SX W T cs ls cell = if Ei ls cell = true then LR W T ls cell else ls := by unfold SX; rw [hp]; rfl
 have e2 : L4 W T cs ls cell = Ei ls cell := by unfold L4; rw [hp]; rfl
 rw [e1, e2]
 have h2 := hp
 simp only [Bool.and_eq_true] at h2
 have hlc := Aj h2.2
 simp
 refine AA (Gc W T cs cell hb) ?_
 by_cases hc : 0 ≤ cell ∧ cell < cs.length
 case neg =>
  have hc2 : Ei ls cell = false := decide_eq_false (fun x => hc ⟨x.1, by omega⟩)
  simp [hc, hc2]
  refine AA (Ak ls hl) ?_
  simp
 obtain ⟨k, rfl⟩ : ∃ k : Nat, cell = k := ⟨cell.toNat, by omega⟩
 have hk : k < ls.length := by omega
 have hk2 : k < cs.length := by omega
 by_cases hz : ati ls k = 0
 ·have hc2 : Ei ls k = false := decide_eq_false (fun x => x.2.2 hz)
  simp [hk, hk2, hz, hc2]
  refine AA (Ak ls hl) ?_
  simp
 ·have hc2 : Ei ls k = true := decide_eq_true ⟨by omega, by omega, hz⟩
  simp [hk, hk2, hz, hc2]
  refine AA (QY W T cs ls k h2.1 h2.2 hk hz) ?_
  simp
theorem YJ (W T : Int) (h1 : 0 ≤ W ∧ W ≤ 6) (h2 : 0 ≤ T ∧ T ≤ 6) :
  SoundAt Tryz.prog Rx [.v (.int .i64 W), .v (.int .i64 T)] (.agg [.v (.int .i64 W), .v (.int .i64 T), .os 1 (AD (List.replicate (W * T).toNat false))]) [.bot, .bot] := by
 refine AJ (md := md0) (ms := [false, false]) YI (by simp) ?_
 have p0 : 0 ≤ W * T := Int.mul_nonneg h1.1 h2.1
 have p1 : W * T ≤ 6 * 6 := Int.mul_le_mul h1.2 h2.2 h2.1 (by omega)
 simp [Ry, ci, p0]
 have e : (AD (List.replicate (W * T).toNat false)).length = (W * T).toNat := by simp
 exact ⟨by omega, by omega, List.take_of_length_le (Nat.le_of_eq e)⟩
def kW (W T : Int) : List Bool := List.replicate (W * T).toNat true
def bu (W T : Int) : Bool := decide (1 ≤ W ∧ W ≤ 6 ∧ 1 ≤ T ∧ T ≤ 6 ∧ W * T ≤ 24)
theorem QZ : SoundAt Tryz.prog Ly [.v (.int .i64 2), .v (.int .i64 3)] (.agg [.v (.int .i64 2), .v (.int .i64 3), .os 1 (AD (List.replicate 6 true))]) [.bot, .bot] := by
 refine AJ (md := md0) (ms := [false, false]) SS (by simp) ?_
 simp [Lz]
 refine AA (Ar (x := 2) (lo := 1) (hi := 6) (by omega)) ?_
 simp
 refine AA (Ar (x := 3) (lo := 1) (hi := 6) (by omega)) ?_
 simp
 refine AA (YJ 2 3 (by omega) (by omega)) ?_
 simp
 refine AH (fun m E H => ∃ i : Nat, m = 6 - i ∧ i ≤ 6 ∧ H = [some (.box [.v (.int .i64 0), .v (.int .i64 0), .os 1 []]), some (.box [.v (.int .i64 2), .v (.int .i64 3), .ls 1 2 0 6]), some (.arr 1 (AD (List.replicate i true ++ List.replicate (6 - i) false)))] ∧
  E = [(4, .lp 0 0 0 0), (5, .lp 0 1 0 0), (27, .v (.int .i64 6)), (28, .v (.int .i64 i))]) 6 ⟨0, by simp⟩ ?_
 rintro J hJ m E H ⟨i, rfl, hi, rfl, rfl⟩
 by_cases h : i < 6
 ·have h' : (i : Int) < 6 := by omega
  have e1 : (List.replicate i true ++ List.replicate (6 - i) false).set i true = List.replicate (i + 1) true ++ List.replicate (6 - (i + 1)) false := by
   have e2 : 6 - i = (6 - (i + 1)) + 1 := by omega
   rw [e2, List.replicate_succ, List.set_append_right _ _ (by simp)]
   simp [List.replicate_succ']
  simp [FA, h', Xr, e1, h]
  exact ⟨by omega, by omega, _, by omega, hJ _ _ _ ⟨i + 1, rfl, h, by rw [show 5 - i = 6 - (i + 1) by omega], by simp⟩⟩
 ·have : i = 6 := by omega
  subst this
  simp [FA]
  rfl
theorem Jl : SoundAt Tryz.prog Rv [] (.v (.bool true)) [] := by
 refine AJ (md := md0) (ms := []) YH (by simp) ?_
 simp [Rw]
 refine AA QZ ?_
 simp
 refine AA (SW 2 3 (List.replicate 6 true) (by simp)) ?_
 simp
 exact ⟨rfl, by decide⟩
def fsL (P : List (Nat × Nat)) : List Int := P.map fun p => (p.1 : Int)
def snL (P : List (Nat × Nat)) : List Int := P.map fun p => (p.2 : Int)
@[simp] theorem lz (P : List (Nat × Nat)) : (fsL P).length = P.length := by simp [fsL]
@[simp] theorem l0 (P : List (Nat × Nat)) : (snL P).length = P.length := by simp [snL]
theorem dh {P : List (Nat × Nat)} {i : Nat} (h : i < P.length) : ati (fsL P) i = (P[i].1 : Int) := by simp [fsL, ati, h]
theorem di {P : List (Nat × Nat)} {i : Nat} (h : i < P.length) : ati (snL P) i = (P[i].2 : Int) := by simp [snL, ati, h]
def bW (os : List Nat) : List Int := os.map Int.ofNat
@[simp] theorem kX (os : List Nat) : (bW os).length = os.length := by simp [bW]
theorem kY {os : List Nat} {i : Nat} (h : i < os.length) : ati (bW os) i = ((os[i] : Nat) : Int) := by simp [bW, ati, h]
theorem dk {P : List (Nat × Nat)} {i : Nat} (h : i < P.length) : P[i].2 ≤ LA (fun _ => 1) P := by
 have h1 := Ic (fun _ => 1) (P.take i) (P.drop i)
 rw [List.take_append_drop, List.drop_eq_getElem_cons h] at h1
 have h2 : LA (fun _ => 1) (P[i] :: P.drop (i + 1)) = P[i].2 + LA (fun _ => 1) (P.drop (i + 1)) := by simp only [LA, List.map_cons, List.sum_cons, Nat.mul_one]
 omega
theorem ZN {P : List (Nat × Nat)} {os : List Nat} {v j : Nat} (h : j < os.length) : Cu P (os.take (j + 1)) v = V4 (Cu P (os.take j) v) os[j] v := by
 unfold Cu
 rw [List.take_succ_eq_append_getElem h, List.foldl_append]; rfl
abbrev VE (W T : Int) (cs : List Bool) : Option Row := some (.box [.v (.int .i64 W), .v (.int .i64 T), .sl 1 1 (AD cs)])
set_option maxHeartbeats 1000000 in
theorem pJ (W T : Int) (cs : List Bool) (P Q : List (Nat × Nat)) (os : List Nat) (c k v : Nat) (hk : k < P.length) (hv : P[k].2 = v) (hP : P.length ≤ 2 ^ 36) (hQ : Q.length + os.length ≤ 2 ^ 38) (hs : LA (fun _ => 1) Q + v * os.length ≤ 2 ^ 40) {Qc : AExit → ES → AM → Prop} {E : ES} {H : AM}
  (hE : E = [(1, .lp 0 0 0 0), (3, .ls 1 1 0 P.length), (4, .ls 1 2 0 P.length), (5, .v (.int .i64 c)), (6, .ls 1 3 0 Q.length), (7, .ls 1 4 0 Q.length), (8, .v (.int .i64 k)), (11, .ls 1 5 0 os.length), (14, .v (.int .i64 0))])
  (hH : H = [VE W T cs, some (.arr 1 (AC (fsL P))), some (.arr 1 (AC (snL P))), some (.arr 1 (AC (fsL Q))), some (.arr 1 (AC (snL Q))), some (.arr 1 (AC (bW os)))])
  (hend : Qc (.exit 5) [(118, .v (.bool false)), (117, .v (.int .i64 os.length)), (116, .ls 1 5 0 os.length), (115, .v (.int .i64 os.length)), (1, .lp 0 0 0 0), (3, .ls 1 1 0 P.length), (4, .ls 1 2 0 P.length), (5, .v (.int .i64 c)), (6, .ls 1 3 0 (Cu Q os v).length), (7, .ls 1 4 0 (Cu Q os v).length), (8, .v (.int .i64 k)), (11, .ls 1 5 0 os.length), (14, .v (.int .i64 os.length))]
   [VE W T cs, some (.arr 1 (AC (fsL P))), some (.arr 1 (AC (snL P))), some (.arr 1 (AC (fsL (Cu Q os v)))), some (.arr 1 (AC (snL (Cu Q os v)))), some (.arr 1 (AC (bW os)))]) :
  CH [(3, 1), (4, 1), (6, 1), (7, 1), (11, 1)] [1, 3, 4, 5, 6, 7, 8, 11, 14] (awp Tryz.prog md0 CU) Qc E H := by
 subst hE hH
 refine AH (fun m E H => ∃ j : Nat, m = os.length - j ∧ j ≤ os.length ∧
  H = [VE W T cs, some (.arr 1 (AC (fsL P))), some (.arr 1 (AC (snL P))), some (.arr 1 (AC (fsL (Cu Q (os.take j) v)))), some (.arr 1 (AC (snL (Cu Q (os.take j) v)))), some (.arr 1 (AC (bW os)))] ∧
  E = [(1, .lp 0 0 0 0), (3, .ls 1 1 0 P.length), (4, .ls 1 2 0 P.length), (5, .v (.int .i64 c)), (6, .ls 1 3 0 (Cu Q (os.take j) v).length), (7, .ls 1 4 0 (Cu Q (os.take j) v).length), (8, .v (.int .i64 k)), (11, .ls 1 5 0 os.length), (14, .v (.int .i64 j))]) os.length ⟨0, by simp [Cu]⟩ ?_
 rintro J hJ m E H ⟨j, rfl, hj, rfl, rfl⟩
 by_cases h : j < os.length
 case neg =>
  have : j = os.length := by omega
  subst this
  rw [List.take_length]
  simp [CU]
  exact hend
 have hstep := ZN (P := Q) (v := v) h
 have hQl := LO v (os.take j) Q
 have hQs : LA (fun _ => 1) (Cu Q (os.take j) v) + v ≤ 2 ^ 40 := by
  rw [LN, XA, List.length_take]
  have : v * min j os.length + v ≤ v * os.length := by
   rw [← Nat.mul_succ]; exact Nat.mul_le_mul_left _ (by omega)
  omega
 generalize hQj : Cu Q (os.take j) v = Qj at *
 generalize hQn : Cu Q (os.take (j + 1)) v = Qn at *
 have hlen : Qj.length ≤ 2 ^ 38 := by simp at hQl; omega
 obtain ⟨o, ho⟩ : ∃ o, os[j] = o := ⟨_, rfl⟩
 rw [ho] at hstep
 have hoa : ati (bW os) j = (o : Int) := by rw [kY h, ho]
 have hva : ati (snL P) k = (v : Int) := by rw [di hk, hv]
 have next : Cx J (os.length - j) [(1, .lp 0 0 0 0), (3, .ls 1 1 0 P.length), (4, .ls 1 2 0 P.length), (5, .v (.int .i64 c)), (6, .ls 1 3 0 Qn.length), (7, .ls 1 4 0 Qn.length), (8, .v (.int .i64 k)), (11, .ls 1 5 0 os.length), (14, .v (.int .i64 (j + 1)))]
   [VE W T cs, some (.arr 1 (AC (fsL P))), some (.arr 1 (AC (snL P))), some (.arr 1 (AC (fsL Qn))), some (.arr 1 (AC (snL Qn))), some (.arr 1 (AC (bW os)))] := by
  refine ⟨_, by omega, hJ _ _ _ ⟨j + 1, rfl, h, ?_, ?_⟩⟩
  ·rw [hQn]
  ·rw [hQn]; simp
 simp [CU, h]
 refine AH (fun m E H => ∃ i : Nat, m = Qj.length - i ∧ i ≤ Qj.length ∧ (∀ i', i' < i → ∀ p, Qj[i']? = some p → p.1 ≠ o) ∧
  H = [VE W T cs, some (.arr 1 (AC (fsL P))), some (.arr 1 (AC (snL P))), some (.arr 1 (AC (fsL Qj))), some (.arr 1 (AC (snL Qj))), some (.arr 1 (AC (bW os)))] ∧
  E = [(1, .lp 0 0 0 0), (3, .ls 1 1 0 P.length), (4, .ls 1 2 0 P.length), (5, .v (.int .i64 c)), (6, .ls 1 3 0 Qj.length), (7, .ls 1 4 0 Qj.length), (8, .v (.int .i64 k)), (11, .ls 1 5 0 os.length), (14, .v (.int .i64 j)), (15, .v (.int .i64 i))]) Qj.length ⟨0, by simp⟩ ?_
 rintro J2 hJ2 m2 E2 H2 ⟨i, rfl, hi, hne, rfl, rfl⟩
 by_cases h2 : i < Qj.length
 case neg =>
  have : i = Qj.length := by omega
  subst this
  have e1 : Qn = Qj ++ [(o, v)] := by
   rw [hstep]
   refine aC v fun p hp => ?_
   obtain ⟨i', hi', rfl⟩ := List.mem_iff_getElem.1 hp
   exact hne i' hi' _ (by simp [hi'])
  have e2 : AC (fsL Qn) = AC (fsL Qj) ++ [.v (.int .i64 o)] := by rw [e1]; simp [fsL, AC]
  have e3 : AC (snL Qn) = AC (snL Qj) ++ [.v (.int .i64 v)] := by rw [e1]; simp [snL, AC]
  have e4 : Qn.length = Qj.length + 1 := by rw [e1]; simp
  rw [e2, e3, e4] at next
  simp [CT, h, hoa, hva, hk]
  exact ⟨by omega, by omega, by omega, by omega, by omega, next⟩
 obtain ⟨p, hp⟩ : ∃ p, Qj[i] = p := ⟨_, rfl⟩
 have hpa : ati (fsL Qj) i = (p.1 : Int) := by rw [dh h2, hp]
 have hpb : ati (snL Qj) i = (p.2 : Int) := by rw [di h2, hp]
 have hw := dk h2
 rw [hp] at hw
 by_cases heq : p.1 = o
 ·have e1 : Qn = Qj.set i (o, p.2 + v) := by
   rw [hstep]
   exact dW v (by simp [h2, hp, ← heq]) hne
  have e2 : fsL Qn = fsL Qj := by
   rw [e1]; unfold fsL
   rw [List.map_set]
   apply List.ext_getElem (by simp)
   intro a h3 h4
   rw [List.getElem_set]
   split
   ·rename_i he; subst he; simp [hp, heq]
   ·rfl
  have e3 : snL Qn = (snL Qj).set i ((p.2 : Int) + v) := by rw [e1]; unfold snL; rw [List.map_set]; simp
  have e4 : Qn.length = Qj.length := by rw [e1]; simp
  rw [e2, e3, e4] at next
  have heq' : (p.1 : Int) = o := by omega
  have hne2 : ¬ (i : Int) = Qj.length := by omega
  simp [CT, h, h2, hoa, hva, hk, hpa, hpb, heq', Dd, hne2]
  exact ⟨by omega, by omega, next⟩
 ·have hne' : ¬ (p.1 : Int) = o := by omega
  simp [CT, h, h2, hoa, hpa, hne']
  refine ⟨by omega, _, by omega, hJ2 _ _ _ ⟨i + 1, rfl, h2, ?_, rfl, by simp⟩⟩
  intro i' hi' q hq
  rcases Nat.lt_succ_iff_lt_or_eq.1 hi' with h3 | h3
  ·exact hne i' h3 q hq
  ·subst h3
   simp [h2, hp] at hq
   rw [← hq]; exact heq
end Go.Proofs.Dev
