/- Contracts of the functions of the program over slots and rows, each proved against the program itself; no condition beyond those that each theorem names. -/
import Derived.Test.YtfkmfobbgoflgaaGreatDoorAM
import Derived.Test.YtfkmfobbgoflgaaGreatDoorProg
import Derived.Test.YtfkmfobbgoflgaaGreatDoorAH
import Derived.Test.YtfkmfobbgoflgaaGreatDoorAK
import Derived.SliceStrings
import Derived.Test.YtfkmfobbgoflgaaGreatDoorAI
set_option linter.unusedSimpArgs false
set_option linter.unusedVariables false
set_option maxRecDepth 100000
namespace Go.Proofs.Dev
@[simp] abbrev PS : Nat := 70
def PT : ACode := .seq (.reg [.o 4 .mv [.k 0]]) <| .seq (.reg [.m 5 1, .m 6 0, .n 7 6, .o 8 (.bin .sub 0) [.t 5, .t 7], .m 1 8]) <| .seq (.seq (.reg [.m 9 1, .o 10 (.bin .lss 0) [.t 9, .k 0]]) <| .cond (.t 10) ( .seq (.reg [.o 4 .mv [.k (-1)]]) <| .ret) ( .skip)) <| .seq (.reg [.m 11 1, .m 4 11]) <| .ret
theorem V4 : cFn Tryz.prog PS 12 [.t 4] PT := ⟨Tryz.f70, _, Tryz.func70, rfl, by kernel_rfl, by kernel_rfl, by kernel_rfl, by kernel_rfl⟩
@[simp] abbrev NT : Nat := 71
def GA : ACode := .seq (.seq (.reg [.m 12 5, .m 13 0, .n 14 13, .o 15 (.bin .lss 0) [.t 12, .t 14]]) <| .cond (.t 15) ( .skip) ( .exit 0)) <| .seq (.block 1 ( .seq (.reg [.m 18 0, .m 19 5, .o 20 (.iadr 1) [.t 18, .t 19], .l 21 20, .m 22 1, .o 23 (.call 70 []) [.t 21, .t 22], .m 1 23]) <| .seq (.reg [.m 24 1, .o 25 (.bin .lss 0) [.t 24, .k 0]]) <| .cond (.t 25) ( .seq (.reg [.o 4 .mv [.k (-1)]]) <| .ret) ( .skip))) <| .reg [.m 16 5, .o 17 (.bin .add 0) [.t 16, .k 1], .m 5 17]
def NU : ACode := .seq (.reg [.o 4 .mv [.k 0]]) <| .seq (.reg [.m 6 1, .m 7 0, .n 8 7, .o 9 (.bin .sub 0) [.t 6, .t 8], .m 1 9]) <| .seq (.seq (.reg [.m 10 1, .o 11 (.bin .lss 0) [.t 10, .k 0]]) <| .cond (.t 11) ( .seq (.reg [.o 4 .mv [.k (-1)]]) <| .ret) ( .skip)) <| .seq (.seq (.reg [.o 5 .mv [.k 0]]) <| .block 0 ( .loop [(0, 1)] [0, 1, 5] GA)) <| .seq (.reg [.m 26 1, .m 4 26]) <| .ret
theorem UL : cFn Tryz.prog NT 27 [.t 4] NU := ⟨Tryz.f71, _, Tryz.func71, rfl, by kernel_rfl, by kernel_rfl, by kernel_rfl, by kernel_rfl⟩
@[simp] abbrev NV : Nat := 85
def GC : ACode := .seq (.seq (.reg [.m 8 4, .m 9 0, .n 10 9, .o 11 (.bin .lss 0) [.t 8, .t 10]]) <| .cond (.t 11) ( .skip) ( .exit 0)) <| .seq (.block 1 ( .reg [.m 14 3, .m 15 4, .m 16 0, .m 17 4, .o 18 (.iadr 1) [.t 16, .t 17], .l 19 18, .o 20 (.call 84 []) [.t 19], .o 21 (.iadr 1) [.t 14, .t 15], .s (.store 1) [.t 21, .t 20]])) <| .reg [.m 12 4, .o 13 (.bin .add 0) [.t 12, .k 1], .m 4 13]
def NW : ACode := .seq (.reg [.o 2 .mv [.c (.os 1 [])]]) <| .seq (.reg [.m 5 0, .n 6 5, .o 7 (.mksl 1 24 (.os 1 [])) [.t 6, .t 6], .m 3 7]) <| .seq (.seq (.reg [.o 4 .mv [.k 0]]) <| .block 0 ( .loop [(0, 1), (3, 1)] [0, 3, 4] GC)) <| .seq (.reg [.m 22 3, .m 2 22]) <| .ret
theorem UM : cFn Tryz.prog NV 23 [.t 2] NW := ⟨Tryz.f85, _, Tryz.func85, rfl, by kernel_rfl, by kernel_rfl, by kernel_rfl, by kernel_rfl⟩
@[simp] abbrev PU : Nat := 23
def PV : ACode := .seq (.reg [.o 2 .box [.t 0], .o 4 .mv [.k 0]]) <| .seq (.reg [.f 5 0 2, .la 6 3 5, .m 7 1, .o 8 (.call 69 []) [.t 6, .t 7], .m 1 8]) <| .seq (.seq (.reg [.m 9 1, .o 10 (.bin .lss 0) [.t 9, .k 0]]) <| .cond (.t 10) ( .seq (.reg [.o 4 .mv [.k (-1)]]) <| .ret) ( .skip)) <| .seq (.reg [.f 11 3 2, .l 12 11, .m 13 1, .o 14 (.call 70 []) [.t 12, .t 13], .m 1 14]) <| .seq (.seq (.reg [.m 15 1, .o 16 (.bin .lss 0) [.t 15, .k 0]]) <| .cond (.t 16) ( .seq (.reg [.o 4 .mv [.k (-1)]]) <| .ret) ( .skip)) <| .seq (.reg [.f 17 4 2, .l 18 17, .m 19 1, .o 20 (.call 70 []) [.t 18, .t 19], .m 1 20]) <| .seq (.seq (.reg [.m 21 1, .o 22 (.bin .lss 0) [.t 21, .k 0]]) <| .cond (.t 22) ( .seq (.reg [.o 4 .mv [.k (-1)]]) <| .ret) ( .skip)) <| .seq (.reg [.f 23 5 2, .l 24 23, .m 25 1, .o 26 (.call 71 []) [.t 24, .t 25], .m 1 26]) <| .seq (.seq (.reg [.m 27 1, .o 28 (.bin .lss 0) [.t 27, .k 0]]) <| .cond (.t 28) ( .seq (.reg [.o 4 .mv [.k (-1)]]) <| .ret) ( .skip)) <| .seq (.reg [.m 29 1, .m 4 29]) <| .ret
theorem V5 : cFn Tryz.prog PU 30 [.t 4] PV := ⟨Tryz.f23, _, Tryz.func23, rfl, by kernel_rfl, by kernel_rfl, by kernel_rfl, by kernel_rfl⟩
@[simp] abbrev PW : Nat := 25
def PX : ACode := .seq (.reg [.o 1 .box [.t 0], .o 2 (.alloc bz) []]) <| .seq (.reg [.o 3 (.alloc bz) []]) <| .seq (.reg [.f 4 0 1, .la 5 3 4, .o 6 (.call 83 []) [.t 5], .f 7 0 3, .s (.store 3) [.t 7, .t 6]]) <| .seq (.reg [.f 8 3 1, .l 9 8, .o 10 (.call 84 []) [.t 9], .f 11 3 3, .s (.store 1) [.t 11, .t 10]]) <| .seq (.reg [.f 12 4 1, .l 13 12, .o 14 (.call 84 []) [.t 13], .f 15 4 3, .s (.store 1) [.t 15, .t 14]]) <| .seq (.reg [.f 16 5 1, .l 17 16, .o 18 (.call 85 []) [.t 17], .f 19 5 3, .s (.store 1) [.t 19, .t 18]]) <| .seq (.reg [.la 20 6 3, .s (.store 6) [.t 2, .t 20]]) <| .ret
theorem V6 : cFn Tryz.prog PW 21 [.c 2 true 6] PX := ⟨Tryz.f25, _, Tryz.func25, rfl, by kernel_rfl, by kernel_rfl, by kernel_rfl, by kernel_rfl⟩
@[simp] abbrev NX : Nat := 88
abbrev Gy : Plan := .al (.o 25 (.call 87 []) [.t 20, .t 24]) ( .take (.o 26 (.un .not) [.t 25]) <| .done)
def GD : ACode := .seq (.seq (.reg [.m 11 5, .m 12 0, .n 13 12, .o 14 (.bin .lss 0) [.t 11, .t 13]]) <| .cond (.t 14) ( .skip) ( .exit 0)) <| .seq (.block 1 ( .seq (.draw ( .take (.m 17 0) <| .take (.m 18 5) <| .take (.o 19 (.iadr 1) [.t 17, .t 18]) <| .take (.m 21 1) <| .take (.m 22 5) <| .take (.o 23 (.iadr 1) [.t 21, .t 22]) <| .alt (.l 20 19) ( .al (.l 24 23) Gy) <| .al (.l 24 23) ( .al (.l 20 19) Gy))) <| .cond (.t 26) ( .seq (.reg [.o 4 .mv [.kb false]]) <| .ret) ( .skip))) <| .reg [.m 15 5, .o 16 (.bin .add 0) [.t 15, .k 1], .m 5 16]
def NY : ACode := .seq (.reg [.o 4 .mv [.kb false]]) <| .seq (.seq (.reg [.m 6 0, .n 7 6, .m 8 1, .n 9 8, .o 10 (.bin .neq 0) [.t 7, .t 9]]) <| .cond (.t 10) ( .seq (.reg [.o 4 .mv [.kb false]]) <| .ret) ( .skip)) <| .seq (.seq (.reg [.o 5 .mv [.k 0]]) <| .block 0 ( .loop [(0, 1), (1, 1)] [0, 1, 5] GD)) <| .seq (.reg [.o 4 .mv [.kb true]]) <| .ret
theorem UN : cFn Tryz.prog NX 27 [.t 4] NY := ⟨Tryz.f88, _, Tryz.func88, rfl, by kernel_rfl, by kernel_rfl, by kernel_rfl, by kernel_rfl⟩
@[simp] abbrev PY : Nat := 26
def PZ : ACode := .seq (.reg [.o 2 .box [.t 0], .o 3 .box [.t 1], .o 4 .mv [.kb false]]) <| .seq (.seq (.reg [.f 5 0 2, .la 6 3 5, .f 7 0 3, .la 8 3 7, .o 9 (.call 86 []) [.t 6, .t 8], .o 10 (.un .not) [.t 9]]) <| .cond (.t 10) ( .seq (.reg [.o 4 .mv [.kb false]]) <| .ret) ( .skip)) <| .seq (.seq (.reg [.f 11 3 2, .l 12 11, .f 13 3 3, .l 14 13, .o 15 (.call 87 []) [.t 12, .t 14], .o 16 (.un .not) [.t 15]]) <| .cond (.t 16) ( .seq (.reg [.o 4 .mv [.kb false]]) <| .ret) ( .skip)) <| .seq (.seq (.reg [.f 17 4 2, .l 18 17, .f 19 4 3, .l 20 19, .o 21 (.call 87 []) [.t 18, .t 20], .o 22 (.un .not) [.t 21]]) <| .cond (.t 22) ( .seq (.reg [.o 4 .mv [.kb false]]) <| .ret) ( .skip)) <| .seq (.seq (.reg [.f 23 5 2, .l 24 23, .f 25 5 3, .l 26 25, .o 27 (.call 88 []) [.t 24, .t 26], .o 28 (.un .not) [.t 27]]) <| .cond (.t 28) ( .seq (.reg [.o 4 .mv [.kb false]]) <| .ret) ( .skip)) <| .seq (.reg [.o 4 .mv [.kb true]]) <| .ret
theorem V7 : cFn Tryz.prog PY 29 [.t 4] PZ := ⟨Tryz.f26, _, Tryz.func26, rfl, by kernel_rfl, by kernel_rfl, by kernel_rfl, by kernel_rfl⟩
@[simp] abbrev Gs : Nat := 18
abbrev AN : Plan := .al (.o 20 (.call 59 []) [.t 12, .t 14, .t 19]) ( .take (.o 21 (.un .not) [.t 20]) <| .done)
abbrev Fr : Plan := .al (.l 16 15) ( .take (.o 18 (.iadr 1) [.t 16, .t 17]) <| .al (.l 19 18) AN)
def Eo : ACode := .seq (.seq (.reg [.m 4 3, .f 5 5 1, .l 6 5, .n 7 6, .o 8 (.bin .lss 0) [.t 4, .t 7]]) <| .cond (.t 8) ( .skip) ( .exit 0)) <| .seq (.block 1 ( .seq (.draw ( .take (.f 11 0 1) <| .take (.f 13 3 1) <| .take (.f 15 5 1) <| .take (.m 17 3) <| .alt (.la 12 3 11) ( .alt (.l 14 13) Fr <| .al (.l 16 15) ( .take (.o 18 (.iadr 1) [.t 16, .t 17]) <| .alt (.l 14 13) ( .al (.l 19 18) AN) <| .al (.l 19 18) ( .al (.l 14 13) AN))) <| .alt (.l 14 13) ( .alt (.la 12 3 11) Fr <| .al (.l 16 15) ( .take (.o 18 (.iadr 1) [.t 16, .t 17]) <| .alt (.la 12 3 11) ( .al (.l 19 18) AN) <| .al (.l 19 18) ( .al (.la 12 3 11) AN))) <| .al (.l 16 15) ( .take (.o 18 (.iadr 1) [.t 16, .t 17]) <| .alt (.la 12 3 11) ( .alt (.l 14 13) ( .al (.l 19 18) AN) <| .al (.l 19 18) ( .al (.l 14 13) AN)) <| .alt (.l 14 13) ( .alt (.la 12 3 11) ( .al (.l 19 18) AN) <| .al (.l 19 18) ( .al (.la 12 3 11) AN)) <| .al (.l 19 18) ( .alt (.la 12 3 11) ( .al (.l 14 13) AN) <| .al (.l 14 13) ( .al (.la 12 3 11) AN))))) <| .cond (.t 21) ( .seq (.reg [.o 2 .mv [.kb false]]) <| .ret) ( .skip))) <| .reg [.m 9 3, .o 10 (.bin .add 0) [.t 9, .k 1], .m 3 10]
def K6 : ACode := .seq (.reg [.o 1 .box [.t 0], .o 2 .mv [.kb false]]) <| .seq (.seq (.reg [.o 3 .mv [.k 0]]) <| .block 0 ( .loop [] [1, 3] Eo)) <| .seq (.reg [.f 22 0 1, .la 23 3 22, .f 24 3 1, .l 25 24, .f 26 4 1, .l 27 26, .o 28 (.call 59 []) [.t 23, .t 25, .t 27], .m 29 28, .fg 30 5 1 29 true, .lg 31 30 29 true, .g 32 (.len false) [.t 31] 29 true, .g 33 (.bin .leq 0) [.t 32, .k 20] 29 true, .o 34 .pick [.t 29, .t 33, .kb false], .m 2 34]) <| .ret
theorem Rb : cFn Tryz.prog Gs 35 [.t 2] K6 := ⟨Tryz.f18, _, Tryz.func18, rfl, by kernel_rfl, by kernel_rfl, by kernel_rfl, by kernel_rfl⟩
@[simp] abbrev JE : Nat := 100
def JF : ACode := .seq (.reg [.o 3 .mv [.kb false]]) <| .seq (.reg [.f 4 0 1, .la 5 3 4, .f 6 3 1, .l 7 6, .m 8 0, .o 9 (.call 98 []) [.t 5, .t 7, .t 8], .o 10 (.un .not) [.t 9], .m 3 10]) <| .ret
theorem Pa : cFn Tryz.prog JE 11 [.t 3] JF := ⟨Tryz.f100, _, Tryz.func100, rfl, by kernel_rfl, by kernel_rfl, by kernel_rfl, by kernel_rfl⟩
@[simp] abbrev EJ : Nat := 155
def Bl : ACode := .seq (.reg [.o 9 (.bin .lss 0) [.t 8, .t 7]]) <| .seq (.cond (.t 9) ( .skip) ( .exit 0)) <| .seq (.block 1 ( .seq (.reg [.m 10 8, .m 5 10]) <| .seq (.reg [.m 11 1, .m 12 0, .m 13 5, .o 14 (.iadr 1) [.t 12, .t 13], .l 15 14, .o 16 (.callv []) [.t 11, .t 15]]) <| .cond (.t 16) ( .seq (.reg [.m 17 5, .m 4 17]) <| .ret) ( .skip))) <| .reg [.o 18 (.bin .add 0) [.t 8, .k 1], .m 8 18]
def EK : ACode := .seq (.reg [.o 4 .mv [.k 0]]) <| .seq (.seq (.reg [.m 6 0, .n 7 6, .o 8 .mv [.k 0]]) <| .block 0 ( .loop [(0, 1)] [0, 1, 7, 8] Bl)) <| .seq (.reg [.o 4 .mv [.k (-1)]]) <| .ret
theorem Ic : cFn Tryz.prog EJ 19 [.t 4] EK := ⟨Tryz.f155, _, Tryz.func155, rfl, by kernel_rfl, by kernel_rfl, by kernel_rfl, by kernel_rfl⟩
@[simp] abbrev DL : Nat := 99
def DM : ACode := .seq (.reg [.o 4 .mv [.kb false]]) <| .seq (.reg [.m 5 0, .m 6 1, .o 7 (.call 155 []) [.t 5, .t 6], .o 8 (.bin .geq 0) [.t 7, .k 0], .m 4 8]) <| .ret
theorem Gt : cFn Tryz.prog DL 9 [.t 4] DM := ⟨Tryz.f99, _, Tryz.func99, rfl, by kernel_rfl, by kernel_rfl, by kernel_rfl, by kernel_rfl⟩
@[simp] abbrev K7 : Nat := 38
def K8 : ACode := .seq (.reg [.o 1 .box [.t 0], .o 2 .mv [.kb false]]) <| .seq (.reg [.f 3 0 1, .la 4 3 3, .f 5 3 1, .l 6 5, .f 7 4 1, .l 8 7, .o 9 (.call 98 []) [.t 4, .t 6, .t 8], .m 10 9, .fg 11 5 1 10 true, .lg 12 11 10 true, .g 13 (.len false) [.t 12] 10 true, .g 14 (.bin .leq 0) [.t 13, .k 20] 10 true, .o 15 .pick [.t 10, .t 14, .kb false], .m 16 15, .fg 17 5 1 16 true, .lg 18 17 16 true, .g 19 (.mkfn 100) [.t 1] 16 true, .g 20 (.call 99 []) [.t 18, .t 19] 16 true, .g 21 (.un .not) [.t 20] 16 true, .o 22 .pick [.t 16, .t 21, .kb false], .m 2 22]) <| .ret
theorem Rc : cFn Tryz.prog K7 23 [.t 2] K8 := ⟨Tryz.f38, _, Tryz.func38, rfl, by kernel_rfl, by kernel_rfl, by kernel_rfl, by kernel_rfl⟩
@[simp] abbrev J1 : Nat := 80
def J3 : ACode := .seq (.reg [.o 1 .box [.t 0], .o 2 .mv [.kb false]]) <| .seq (.reg [.la 3 6 1, .o 4 (.call 18 []) [.t 3], .m 5 4, .fg 6 0 1 5 true, .g 7 (.load true 3) [.t 6] 5 true, .fg 8 3 1 5 true, .lg 9 8 5 true, .fg 10 4 1 5 true, .lg 11 10 5 true, .g 12 (.call 148 []) [.t 7, .t 9, .t 11] 5 true, .o 13 .pick [.t 5, .t 12, .kb false], .m 2 13]) <| .ret
theorem Qb : cFn Tryz.prog J1 14 [.t 2] J3 := ⟨Tryz.f80, _, Tryz.func80, rfl, by kernel_rfl, by kernel_rfl, by kernel_rfl, by kernel_rfl⟩
def sls (c : Nat) (ps : List (List Int)) : List AV := ps.map fun p => .sl c 1 (AB p)
def oss (ps : List (List Int)) : List AV := ps.map fun p => .os 1 (AB p)
def pti (ps : List (List Int)) (i : Int) : List Int := ps.getD i.toNat []
@[simp] theorem ix (c : Nat) (ps : List (List Int)) : (sls c ps).length = ps.length := by simp [sls]
@[simp] theorem iy (ps : List (List Int)) : (oss ps).length = ps.length := by simp [oss]
@[simp] theorem mD (c : Nat) : sls c [] = [] := (rfl)
@[simp] theorem gm : oss [] = [] := (rfl)
@[simp] theorem iz (c : Nat) (ps : List (List Int)) : (sls c ps = []) = (ps = []) := by cases ps <;> simp [sls]
@[simp] theorem i6 (ps : List (List Int)) : (oss ps = []) = (ps = []) := by cases ps <;> simp [oss]
theorem J4 (a b : List (List Int)) : oss (a ++ b) = oss a ++ oss b := by simp [oss]
theorem Qd (a : List Int) : oss [a] = [.os 1 (AB a)] := (rfl)
@[simp] theorem fD {c d : Nat} {k : IntKind} {ps : List (List Int)} {i : Int} : Ds 1 (.sl c 1 (sls d ps)) (.v (.int k i)) = if 0 ≤ i ∧ i < ps.length then some (.vp c [.sl d 1 (AB (pti ps i))] 0) else none := by
  by_cases h : 0 ≤ i ∧ i < ps.length
  ·rw [if_pos h]
   have h1 : i.toNat < ps.length := by omega
   simp [Ds, h.1, sls, pti, h1]
  ·rw [if_neg h]
   by_cases h0 : 0 ≤ i
   ·have : ¬ i.toNat < ps.length := by omega
    simp [Ds, h0, sls, this]
   ·simp [Ds, h0]
@[simp] theorem gn (c d : Nat) : ∀ ps : List (List Int), vwL c (sls d ps) = sls c ps
  | [] => rfl
  | p :: ps => by
    show vw c (.sl d 1 (AB p)) :: vwL c (sls d ps) = .sl c 1 (AB p) :: sls c ps
    rw [gn c d ps]; simp
@[simp] theorem go (c : Nat) : ∀ ps : List (List Int), vwL c (oss ps) = sls c ps
  | [] => rfl
  | p :: ps => by
    show vw c (.os 1 (AB p)) :: vwL c (oss ps) = .sl c 1 (AB p) :: sls c ps
    rw [go c ps]; simp
@[simp] theorem gp (c : Nat) : ∀ ps : List (List Int), okL (sls c ps) = true
  | [] => rfl
  | p :: ps => by show (okE (.sl c 1 (AB p)) && okL (sls c ps)) = true; rw [gp c ps]; simp
@[simp] theorem V8 : ∀ ps : List (List Int), okL (oss ps) = true
  | [] => rfl
  | p :: ps => by show (okE (.os 1 (AB p)) && okL (oss ps)) = true; rw [V8 ps]; simp
theorem bK (ps : List (List Int)) (i : Nat) (p : List Int) : (oss ps).set i (.os 1 (AB p)) = oss (ps.set i p) := by simp [oss, List.map_set]
theorem gq (n : Nat) : List.replicate n (.os 1 []) = oss (List.replicate n []) := by simp [oss]
theorem da (n : Nat) (ps : List (List Int)) : (oss ps).take n = oss (ps.take n) := by simp [oss]
@[simp] theorem fE (ps : List (List Int)) : (oss ps).take ps.length = oss ps := by rw [da, List.take_length]
theorem bL (ps : List (List Int)) (i : Nat) : pti ps (i : Int) = ps.getD i [] := by simp [pti]
theorem Kf (xs : List Int) (left : Int) (h0 : 0 ≤ left) (h1 : left < 2 ^ 60) (hb : xs.length ≤ 9223372036854775807) :
  SoundAt Tryz.prog PS [.sl 1 1 (AB xs), .v (.int .i64 left)] (.v (.int .i64 (if left < xs.length then -1 else left - xs.length))) [.bot, .bot] := by
 refine AE (md := md0) (ms := [false, false]) V4 (by simp) ?_
 simp [PT]
 omega
def ED (ps : List (List Int)) : Nat := (ps.map List.length).sum
theorem TG (a b : List (List Int)) : ED (a ++ b) = ED a + ED b := by
 unfold ED; rw [List.map_append, List.sum_append]
theorem D3 {ps : List (List Int)} {i : Nat} (h : i < ps.length) : pti ps i = ps[i] := by
 unfold pti; rw [Int.toNat_natCast, List.getD_eq_getElem?_getD, List.getElem?_eq_getElem h]; rfl
theorem Pb {ps : List (List Int)} {i : Nat} (h : i < ps.length) : ED (ps.take (i + 1)) = ED (ps.take i) + (pti ps i).length := by
 rw [List.take_succ_eq_append_getElem h, TG, D3 h]
 unfold ED; rfl
theorem V9 {ps : List (List Int)} {i : Nat} : ED (ps.take i) ≤ ED ps := by
 have h := TG (ps.take i) (ps.drop i)
 rw [List.take_append_drop] at h
 omega
theorem Kg {ps : List (List Int)} {i : Nat} (h : i < ps.length) : pti ps i ∈ ps := by rw [D3 h]; exact List.getElem_mem h
theorem kE {ps : List (List Int)} {i : Nat} (h : i < ps.length) : (pti ps i).length ≤ ED ps := by
 have h1 := Pb h
 have h2 := V9 (ps := ps) (i := i + 1)
 omega
theorem UO (ps : List (List Int)) (left : Int) (h0 : 0 ≤ left) (h1 : left < 2 ^ 60) (hb : ps.length ≤ 9223372036854775807) (hp : ∀ p ∈ ps, p.length ≤ 9223372036854775807) :
  SoundAt Tryz.prog NT [.sl 1 1 (sls 1 ps), .v (.int .i64 left)] (.v (.int .i64 (if left < ps.length + ED ps then -1 else left - (ps.length + ED ps)))) [.bot, .bot] := by
 refine AE (md := md0) (ms := [false, false]) UL (by simp) ?_
 simp [NU]
 by_cases hn : left < ps.length
 ·have h2 : left < ps.length + ED ps := by omega
  simp [hn, h2]
  omega
 have hn' : ¬ left - ps.length < 0 := by omega
 simp [hn']
 refine ⟨by omega, ?_⟩
 intro _
 refine AF (fun m E H => ∃ i : Nat, m = ps.length - i ∧ i ≤ ps.length ∧ ps.length + ED (ps.take i) ≤ left ∧ H = [] ∧ E = [(0, .sl 1 1 (sls 1 ps)), (1, .v (.int .i64 (left - ps.length - ED (ps.take i)))), (5, .v (.int .i64 i))]) ps.length ⟨0, by simp [ED]; omega⟩ ?_
 rintro J hJ m E H ⟨i, rfl, hi, hle, rfl, rfl⟩
 by_cases h : i < ps.length
 case neg =>
  have : i = ps.length := by omega
  subst this
  rw [List.take_length] at hle ⊢
  have h2 : ¬ left < ps.length + ED ps := by omega
  simp [GA, h2]
  omega
 have hs := Pb h
 have hpl := hp _ (Kg h)
 have one := Kf (pti ps i) (left - ps.length - ED (ps.take i)) (by omega) (by omega) hpl
 simp [GA, h]
 refine AA one ?_
 by_cases hx : left - ps.length - ED (ps.take i) < (pti ps i).length
 ·have h2 : left < ps.length + ED ps := by
   have := V9 (ps := ps) (i := i + 1)
   omega
  simp [hx, h2]
 ·have h2 : ¬ (left - ps.length - ED (ps.take i) - (pti ps i).length < 0) := by omega
  have e : left - ps.length - ED (ps.take i) - (pti ps i).length = left - ps.length - ED (ps.take (i + 1)) := by omega
  rw [e] at h2
  simp [hx, e, h2]
  exact ⟨by omega, _, by omega, hJ _ _ _ ⟨i + 1, rfl, h, by omega, rfl, rfl⟩⟩
theorem UP (ps : List (List Int)) (hb : ps.length < 2 ^ 40) (hp : ∀ p ∈ ps, p.length < 2 ^ 40) :
  SoundAt Tryz.prog NV [.sl 1 1 (sls 1 ps)] (.os 1 (oss ps)) [.bot] := by
 refine AE (md := md0) (ms := [false]) UM (by simp) ?_
 simp [NW]
 refine ⟨by omega, ?_⟩
 refine AF (fun m E H => ∃ i : Nat, m = ps.length - i ∧ i ≤ ps.length ∧ H = [some (.arr 1 (oss (ps.take i ++ List.replicate (ps.length - i) [])))] ∧ E = [(0, .sl 1 1 (sls 1 ps)), (3, .ls 1 0 0 ps.length), (4, .v (.int .i64 i))]) ps.length ⟨0, by simp [gq]⟩ ?_
 rintro J hJ m E H ⟨i, rfl, hi, rfl, rfl⟩
 by_cases h : i < ps.length
 case neg =>
  have : i = ps.length := by omega
  subst this
  simp [GC]
 simp [GC, h]
 refine AA (Kc (pti ps i) (hp _ (Kg h))) ?_
 simp
 refine ⟨h, by omega, by omega, _, by omega, hJ _ _ _ ⟨i + 1, rfl, h, ?_, rfl⟩⟩
 rw [bK, bL, Vq ps [] [] i h]
@[simp] def bkA (W T : Int) (cs : List Bool) (ds ls : List Int) (ps : List (List Int)) : AV := .agg [.v (.int .i64 W), .v (.int .i64 T), .sl 1 1 (AC cs), .sl 1 1 (AB ds), .sl 1 1 (AB ls), .sl 1 1 (sls 1 ps)]
@[simp] def bkO (W T : Int) (cs : List Bool) (ds ls : List Int) (ps : List (List Int)) : AV := .agg [.v (.int .i64 W), .v (.int .i64 T), .os 1 (AC cs), .os 1 (AB ds), .os 1 (AB ls), .os 1 (oss ps)]
theorem WA (W T : Int) (cs : List Bool) (ds ls : List Int) (ps : List (List Int)) (hc : cs.length < 2 ^ 40) (hd : ds.length < 2 ^ 40) (hl : ls.length < 2 ^ 40) (hb : ps.length < 2 ^ 40) (hp : ∀ p ∈ ps, p.length < 2 ^ 40) :
  SoundAt Tryz.prog PW [bkA W T cs ds ls ps] (bkO W T cs ds ls ps) [.bot] := by
 refine AE (md := md0) (ms := [false]) V6 (by simp) ?_
 simp [PX]
 refine AA (Ss W T cs hc) ?_
 simp
 refine AA (Kc ds hd) ?_
 simp
 refine AA (Kc ls hl) ?_
 simp
 refine AA (UP ps hb hp) ?_
 simp
def bM (left : Int) (n : Nat) : Int := if left < n then -1 else left - n
def db (cs : List Bool) (ds ls : List Int) (ps : List (List Int)) : Nat := cs.length + ds.length + ls.length + (ps.length + ED ps)
theorem Pc (W T : Int) (cs : List Bool) (ds ls : List Int) (ps : List (List Int)) (left : Int) (h0 : 0 ≤ left) (h1 : left < 2 ^ 60) (hc : cs.length ≤ 9223372036854775807) (hd : ds.length ≤ 9223372036854775807) (hl : ls.length ≤ 9223372036854775807) (hb : ps.length ≤ 9223372036854775807) (hp : ∀ p ∈ ps, p.length ≤ 9223372036854775807) :
  SoundAt Tryz.prog PU [bkA W T cs ds ls ps, .v (.int .i64 left)] (.v (.int .i64 (bM left (db cs ds ls ps)))) [.bot, .bot] := by
 refine AE (md := md0) (ms := [false, false]) V5 (by simp) ?_
 unfold bM db
 simp [PV]
 refine AA (Sr W T cs left h0 h1 hc) ?_
 by_cases g1 : left < cs.length
 ·have e : left < cs.length + ds.length + ls.length + (ps.length + ED ps) := by omega
  simp [g1, e]
 have n1 : ¬ left - cs.length < 0 := by omega
 simp [g1, n1]
 try intro _
 refine AA (Kf ds (left - cs.length) (by omega) (by omega) hd) ?_
 by_cases g2 : left - cs.length < ds.length
 ·have e : left < cs.length + ds.length + ls.length + (ps.length + ED ps) := by omega
  simp [g2, e]
 have n2 : ¬ left - cs.length - ds.length < 0 := by omega
 simp [g2, n2]
 try intro _
 refine AA (Kf ls (left - cs.length - ds.length) (by omega) (by omega) hl) ?_
 by_cases g3 : left - cs.length - ds.length < ls.length
 ·have e : left < cs.length + ds.length + ls.length + (ps.length + ED ps) := by omega
  simp [g3, e]
 have n3 : ¬ left - cs.length - ds.length - ls.length < 0 := by omega
 simp [g3, n3]
 try intro _
 refine AA (UO ps (left - cs.length - ds.length - ls.length) (by omega) (by omega) hb hp) ?_
 by_cases g4 : left - cs.length - ds.length - ls.length < ps.length + ED ps
 ·have e : left < cs.length + ds.length + ls.length + (ps.length + ED ps) := by omega
  simp [g4, e]
 have n4 : ¬ left - cs.length - ds.length - ls.length - (ps.length + ED ps) < 0 := by omega
 have e : ¬ left < cs.length + ds.length + ls.length + (ps.length + ED ps) := by omega
 simp [g4, n4, e]
 omega
theorem UQ (ps qs : List (List Int)) (ha : ps.length < 2 ^ 40) (hp : ∀ p ∈ ps, p.length < 2 ^ 40) :
  SoundAt Tryz.prog NX [.sl 1 1 (sls 1 ps), .sl 1 1 (sls 1 qs)] (.v (.bool (decide (ps = qs)))) [.bot, .bot] := by
 refine AE (md := md0) (ms := [false, false]) UN (by simp) ?_
 simp [NY]
 refine ⟨fun h => ?_, fun hl => ?_⟩
 ·intro e; subst e; exact h rfl
 refine AF (fun m E H => ∃ i : Nat, m = ps.length - i ∧ i ≤ ps.length ∧ ps.take i = qs.take i ∧ H = [] ∧ E = [(0, .sl 1 1 (sls 1 ps)), (1, .sl 1 1 (sls 1 qs)), (5, .v (.int .i64 i))]) ps.length ⟨0, by simp⟩ ?_
 rintro J hJ m E H ⟨i, rfl, hi, he, rfl, rfl⟩
 by_cases h : i < ps.length
 case neg =>
  have h1 : i = ps.length := by omega
  subst h1
  have e : ps = qs := by
   rw [List.take_length] at he
   rw [he]; exact List.take_of_length_le (by omega)
  simp [GD, e]
 have h2 : i < qs.length := by omega
 simp [GD, h, h2]
 have one := Kd (pti ps i) (pti qs i) (hp _ (Kg h))
 have key : (pti ps i = pti qs i) → ps.take (i + 1) = qs.take (i + 1) := by
  intro e
  rw [List.take_succ_eq_append_getElem h, List.take_succ_eq_append_getElem h2, he, ← D3 h, ← D3 h2, e]
 have key2 : ¬ (pti ps i = pti qs i) → ¬ ps = qs := fun e e2 => e (by rw [e2])
 (repeat' first | assumption | omega | apply And.intro) <;>
 ·refine AA one ?_
  by_cases e : pti ps i = pti qs i
  ·simp [e]
   exact ⟨by omega, _, by omega, hJ _ _ _ ⟨i + 1, rfl, h, key e, rfl, rfl⟩⟩
  ·simp [e, key2 e]
theorem Pd (W T : Int) (cs : List Bool) (ds ls : List Int) (ps : List (List Int)) (hc : cs.length < 2 ^ 40) (hd : ds.length < 2 ^ 40) (hl : ls.length < 2 ^ 40) (hb : ps.length < 2 ^ 40) (hp : ∀ p ∈ ps, p.length < 2 ^ 40) :
  SoundAt Tryz.prog PY [bkA W T cs ds ls ps, bkA W T cs ds ls ps] (.v (.bool true)) [.bot, .bot] := by
 refine AE (md := md0) (ms := [false, false]) V7 (by simp) ?_
 simp [PZ]
 refine AA (St W T W T cs cs hc) ?_
 simp
 refine AA (Kd ds ds hd) ?_
 simp
 refine AA (Kd ls ls hl) ?_
 simp
 refine AA (UQ ps ps hb hp) ?_
 simp
open Go.ChangeShapes Go.WideShapes Go.ChangeAt Go.RowKit
theorem XN (c : Nat) : ∀ ps : List (List Int), Ak (sls c ps) = sls c ps
 | [] => rfl
 | p :: ps => by show Aa _ ++ Ak (sls c ps) = _ :: sls c ps; rw [XN c ps]; rfl
theorem bN (c : Nat) (ps : List (List Int)) : Sized 1 (sls c ps) := by
 intro e he
 obtain ⟨n, _, rfl⟩ := List.mem_map.1 he
 rfl
theorem fF {C : Ctx} {α : Type} {f : α → AV} {g : α → Value} : ∀ L : List α, (∀ x ∈ L, R C (f x) [] (g x)) → RL C (L.map f) [] (L.map g)
 | [], _ => by show RL C [] [] []; rw [RL]; exact ⟨rfl, rfl⟩
 | x :: xs, h => by
   show RL C (f x :: xs.map f) [] (g x :: xs.map g)
   rw [RL]; exact ⟨[], [], _, _, rfl, rfl, h x (by simp), fF xs fun y hy => h y (by simp [hy])⟩
section
variable {H : Type} {enc : TypeId × Value → H} {P : Program} {W : World}
theorem U9 : ∀ xs : List Int, M2 (AB xs) = true
 | [] => rfl
 | x :: xs => by show (Value.oneCell' (.int .i64 x) && M2 (AB xs)) = true; rw [U9 xs]; rfl
theorem bO {xs : List Int} {v : Value} (h : R (cin W [] fun _ => False) (.sl 1 1 (AB xs)) [] v) : R ((cin W [] fun _ => False).at 1) (.sl 1 1 (AB xs)) [] v := by
 rw [R] at h ⊢
 obtain ⟨h0, a, cap, hu, hle, h⟩ := h
 refine ⟨h0, a, cap, hu, hle, ?_⟩
 rcases h with h | ⟨b, p, us, ha, hb, hbad, hcells, hs, hr⟩
 ·exact .inl h
 ·refine .inr ⟨b, p, us, ha, hb, fun hx => hbad (hx rfl), hcells, hs, ?_⟩
  rw [HO] at hr ⊢
  exact (R1 hr (U9 xs)).2.1 _
theorem YN {t e q : TypeId} {v : Value} {x : DataW H × List MemPlace} {fuel : Nat} (ht : P.underlying t = some (.slice e)) (he : P.underlying e = some (.slice q)) (hq : P.underlying q = some (.int .i64)) (ce : P.cellsOf e = 1) (cq : P.cellsOf q = 1)
  (hf : DataW.trod enc P W 0 (fun _ => true) true fuel t [v] = some x) :
  ∃ ps : List (List Int), ps.length ≤ maxLen ∧ (∀ p ∈ ps, p.length ≤ maxLen) ∧ R (cin W [] fun _ => False) (.sl 1 1 (sls 1 ps)) [] v := by
 rcases Go.Deep.open_slice1 ht ce hf with ⟨hcs, hx⟩ | ⟨a, len, cap, m, n, V, D, Pl, hcs, _, hl, hm, hmm, hx, hcell⟩
 ·simp at hcs
  subst hcs
  exact ⟨[], by simp, by simp, by rw [R]; exact ⟨rfl, none, 0, rfl, Nat.le_refl _, .inl rfl⟩⟩
 ·simp at hcs
  subst hcs
  simp only [if_true] at hmm
  have each : ∀ i, i < len → ∃ xs : List Int, xs.length ≤ maxLen ∧ R (cin W [] fun _ => False) (.sl 1 1 (AB xs)) [] (V i) := by
   intro i hi
   obtain ⟨xs, h1, _, h2⟩ := QP he hq cq (hcell i (by omega)).2
   exact ⟨xs, h1, h2⟩
  obtain ⟨X, hX⟩ := Go.Deep.choose_lt each
  refine ⟨(List.range len).map X, by simp; omega, ?_, ?_⟩
  ·intro p hp
   obtain ⟨i, hi, rfl⟩ := List.mem_map.1 hp
   exact (hX i (by simpa using hi)).1
  ·refine Vb (xs := (List.range len).map V) hl (by simp) (by simp) ?_ (bN _ _) ?_
   ·intro i v hi
    rw [List.getElem?_map] at hi
    simp only [Option.map_eq_some_iff] at hi
    obtain ⟨k, hk, rfl⟩ := hi
    have hlt : i < len := by have := (List.getElem?_eq_some_iff.1 hk).1; simpa using this
    rw [List.getElem?_range hlt] at hk
    cases hk
    exact (hcell i (by omega)).1
   ·rw [XN]
    unfold sls
    rw [List.map_map]
    exact fF _ fun i hi => bO (hX i (by simpa using hi)).2
theorem kF {α : Type} {cs : Array α} (h : cs.size = 6) : ∃ c0 c1 c2 c3 c4 c5, cs = #[c0, c1, c2, c3, c4, c5] := by
 obtain ⟨l⟩ := cs
 match l, h with
 | [c0, c1, c2, c3, c4, c5], _ => exact ⟨c0, c1, c2, c3, c4, c5, rfl⟩
theorem bP {t tb ti tn : TypeId} {f0 f1 f2 f3 g0 g1 g2 : Field} {v : Value} {d : DataW H} {p : List MemPlace} {base : Nat} (hs : P.underlying t = some (.struct #[f0, f1, f2, f3])) (hC : P.cellsOf t = 6)
  (hg : P.underlying f0.type = some (.struct #[g0, g1, g2])) (c0 : P.cellsOf f0.type = 3) (c1 : P.cellsOf f1.type = 1) (c2 : P.cellsOf f2.type = 1) (c3 : P.cellsOf f3.type = 1)
  (o : f0.offset = 0 ∧ f1.offset = 3 ∧ f2.offset = 4 ∧ f3.offset = 5) (og : g0.offset = 0 ∧ g1.offset = 1 ∧ g2.offset = 2) (d0 : P.cellsOf g0.type = 1) (d1 : P.cellsOf g1.type = 1) (d2 : P.cellsOf g2.type = 1)
  (h0 : P.underlying g0.type = some (.int .i64)) (h1 : P.underlying g1.type = some (.int .i64)) (h2 : P.underlying g2.type = some (.slice tb)) (hb : P.underlying tb = some .bool) (hcb : P.cellsOf tb = 1)
  (h3 : P.underlying f1.type = some (.slice ti)) (h4 : P.underlying f2.type = some (.slice ti)) (hi : P.underlying ti = some (.int .i64)) (hci : P.cellsOf ti = 1)
  (h5 : P.underlying f3.type = some (.slice tn)) (h6 : P.underlying tn = some (.slice ti)) (hcn : P.cellsOf tn = 1)
  (hv : Value.okWide P W .any base t v) (h : DataW.Trod enc P W 0 (fun _ => true) true t v d p) :
  ∃ (a b : Int) (cs : List Bool) (ds ls : List Int) (ps : List (List Int)), cs.length ≤ maxLen ∧ ds.length ≤ maxLen ∧ ls.length ≤ maxLen ∧ ps.length ≤ maxLen ∧ (∀ p ∈ ps, p.length ≤ maxLen) ∧ R (cin W [] fun _ => False) (bkA a b cs ds ls ps) [] v := by
 obtain ⟨vs, rfl, hsz⟩ := okWide_struct hs hv
 obtain ⟨v0, v1, v2, v3, v4, v5, rfl⟩ := kF (hsz.trans hC)
 obtain ⟨fuel, hf⟩ := h
 obtain ⟨y0, y1, y2, y3, n, hx, _, t0, t1, t2, t3⟩ := Joins.trod_struct4 hs hf
 obtain ⟨o0, o1, o2, o3⟩ := o
 obtain ⟨q0, q1, q2⟩ := og
 have t0' : DataW.trod enc P W 0 (fun _ => true) true n f0.type [v0, v1, v2] = some y0 := by simpa [Value.cells, o0, c0] using t0
 have t1' : DataW.trod enc P W 0 (fun _ => true) true n f1.type [v3] = some y1 := by simpa [Value.cells, o1, c1] using t1
 have t2' : DataW.trod enc P W 0 (fun _ => true) true n f2.type [v4] = some y2 := by simpa [Value.cells, o2, c2] using t2
 have t3' : DataW.trod enc P W 0 (fun _ => true) true n f3.type [v5] = some y3 := by simpa [Value.cells, o3, c3] using t3
 obtain ⟨z0, z1, z2, k, hz, _, s0, s1, s2⟩ := Go.Deep.trod_struct3 hg t0'
 have s0' : DataW.trod enc P W 0 (fun _ => true) true k g0.type [v0] = some z0 := by simpa [q0, d0] using s0
 have s1' : DataW.trod enc P W 0 (fun _ => true) true k g1.type [v1] = some z1 := by simpa [q1, d1] using s1
 have s2' : DataW.trod enc P W 0 (fun _ => true) true k g2.type [v2] = some z2 := by simpa [q2, d2] using s2
 obtain ⟨a, ha, _, wa⟩ := DataW.trod_int h0 s0'
 obtain ⟨b, hb', _, wb⟩ := DataW.trod_int h1 s1'
 obtain ⟨cs, hl0, r0⟩ := X4 h2 hb hcb s2'
 obtain ⟨ds, hl1, _, r1⟩ := QP h3 hi hci t1'
 obtain ⟨ls, hl2, _, r2⟩ := QP h4 hi hci t2'
 obtain ⟨ps, hl3, hl4, r3⟩ := YN h5 h6 hi hcn hci t3'
 simp at ha hb'
 subst ha; subst hb'
 refine ⟨a, b, cs, ds, ls, ps, hl0, hl1, hl2, hl3, hl4, ?_⟩
 unfold bkA
 rw [R]
 refine ⟨[_, _, v2, v3, v4, v5], rfl, ?_⟩
 rw [RL]; refine ⟨[], [], _, _, rfl, rfl, by rw [R]; exact ⟨rfl, rfl⟩, ?_⟩
 rw [RL]; refine ⟨[], [], _, _, rfl, rfl, by rw [R]; exact ⟨rfl, rfl⟩, ?_⟩
 rw [RL]; refine ⟨[], [], _, _, rfl, rfl, r0, ?_⟩
 rw [RL]; refine ⟨[], [], _, _, rfl, rfl, r1, ?_⟩
 rw [RL]; refine ⟨[], [], _, _, rfl, rfl, r2, ?_⟩
 rw [RL]; exact ⟨[], [], _, _, rfl, rfl, r3, by rw [RL]; exact ⟨rfl, rfl⟩⟩
end
end Go.Proofs.Dev
namespace Go.Proofs.YtfkmfobbgoflgaaGreatDoor
open Go.ChangeShapes Go.WideShapes Go.ChangeAt Go.RowKit Go.Proofs.Dev
theorem mE : Tryz.prog.cellsOf 53 = 6 := by kernel_rfl
theorem my : Tryz.prog.cellsOf 51 = 3 := by kernel_rfl
theorem mF : Tryz.prog.cellsOf 3 = 1 := by kernel_rfl
theorem mG : Tryz.prog.cellsOf 4 = 1 := by kernel_rfl
theorem gr : Tryz.prog.cellsOf 35 = 1 := by kernel_rfl
theorem kG : Tryz.prog.cellsOf 36 = 1 := by kernel_rfl
theorem kH : Tryz.prog.cellsOf 32 = 1 := by kernel_rfl
theorem mH : Tryz.prog.readableRec 53 = true := by kernel_rfl
theorem mz : Tryz.prog.readableRec 9 = true := by kernel_rfl
theorem RL.cons0 {C : Ctx} {a : AV} {bs : List AV} {u : Value} {us : List Value} (h : R C a [] u) (h' : RL C bs [] us) : RL C (a :: bs) [] (u :: us) := by
 rw [RL]; exact ⟨[], [], u, us, rfl, rfl, h, h'⟩
theorem RL.nil0 {C : Ctx} : RL C [] [] [] := by rw [RL]; exact ⟨rfl, rfl⟩
theorem dc {P : Program} {W : World} {H : Type} {enc : TypeId × Value → H} {t : TypeId} {v : Value} {d : DataW H} {p : List MemPlace} {base : Nat} (ht : P.underlying t = some .string)
  (hv : Value.okWide P W .any base t v) (h : DataW.Trod enc P W 0 (fun _ => true) true t v d p) :
  ∃ s : List UInt8, s.length ≤ 9223372036854775807 ∧ R (cin W [] fun _ => False) (.v (tx s)) [] v := by
 obtain ⟨s, rfl, _, _, hs⟩ := Go.ChangeMaps.open_string ht hv h
 refine ⟨s.data.toList, ?_, ?_⟩
 ·have : s.size = s.data.toList.length := Go.Lib.size_eq s
  have hm : maxLen ≤ 9223372036854775807 := by decide
  omega
 ·rw [R]
  refine ⟨rfl, ?_⟩
  show Value.string s = Value.string ⟨s.data.toList.toArray⟩
  rw [Go.Lib.mk_data]
end Go.Proofs.YtfkmfobbgoflgaaGreatDoor
namespace Go.Proofs.Dev
@[simp] abbrev DV : Nat := 5
def Ci : ACode := .seq (.reg [.o 11 .mv [.k 1]]) <| .seq (.reg [.la 53 6 8, .m 54 11, .o 55 (.call 27 []) [.t 53, .t 54], .m 11 55]) <| .seq (.seq (.reg [.m 56 11, .o 57 (.bin .lss 0) [.t 56, .k 0], .m 58 57, .g 59 (.load true 6) [.t 9] 58 false, .g 60 (.load true 6) [.t 6] 58 false, .g 61 (.call 26 []) [.t 59, .t 60] 58 false, .g 62 (.un .not) [.t 61] 58 false, .o 63 .pick [.t 58, .kb true, .t 62], .m 64 63, .mg 65 10 64 false, .mg 66 7 64 false, .g 67 (.bin .neq 1) [.t 65, .t 66] 64 false, .o 68 .pick [.t 64, .kb true, .t 67]]) <| .cond (.t 68) ( .seq (.reg [.o 4 .mv [.kb false]]) <| .ret) ( .skip)) <| .seq (.reg [.o 12 .mv [.k 1]]) <| .seq (.reg [.la 69 6 9, .m 70 12, .o 71 (.call 27 []) [.t 69, .t 70], .m 12 71]) <| .seq (.reg [.o 13 .mv [.k 1]]) <| .seq (.reg [.la 72 6 9, .m 73 13, .o 74 (.call 28 []) [.t 72, .t 73], .m 13 74]) <| .seq (.seq (.reg [.m 75 13, .o 76 (.bin .lss 0) [.t 75, .k 0]]) <| .cond (.t 76) ( .seq (.reg [.o 4 .mv [.kb false]]) <| .ret) ( .skip)) <| .seq (.seq (.reg [.m 77 13, .m 78 12, .o 79 (.bin .neq 0) [.t 77, .t 78]]) <| .cond (.t 79) ( .seq (.reg [.o 4 .mv [.kb false]]) <| .ret) ( .skip)) <| .seq (.reg [.la 81 6 2, .o 82 (.call 25 []) [.t 81], .m 83 1, .o 84 (.call 19 []) [.t 82, .t 83], .m 80 84, .e 85 0 80, .e 86 1 80, .o 14 (.alloc bz) [], .s (.store 6) [.t 14, .t 85], .m 15 86]) <| .seq (.seq (.reg [.la 87 6 14, .la 88 6 6, .o 89 (.call 26 []) [.t 87, .t 88], .o 90 (.un .not) [.t 89], .m 91 90, .mg 92 15 91 false, .mg 93 7 91 false, .g 94 (.bin .neq 1) [.t 92, .t 93] 91 false, .o 95 .pick [.t 91, .kb true, .t 94]]) <| .cond (.t 95) ( .seq (.reg [.o 4 .mv [.kb false]]) <| .ret) ( .skip)) <| .seq (.reg [.o 13 .mv [.k 1]]) <| .seq (.reg [.la 96 6 9, .m 97 13, .o 98 (.call 28 []) [.t 96, .t 97], .m 13 98]) <| .seq (.seq (.reg [.m 99 13, .o 100 (.bin .lss 0) [.t 99, .k 0]]) <| .cond (.t 100) ( .seq (.reg [.o 4 .mv [.kb false]]) <| .ret) ( .skip)) <| .seq (.seq (.reg [.m 101 13, .m 102 12, .o 103 (.bin .neq 0) [.t 101, .t 102]]) <| .cond (.t 103) ( .seq (.reg [.o 4 .mv [.kb false]]) <| .ret) ( .skip)) <| .seq (.reg [.o 4 .mv [.kb true]]) <| .ret
abbrev Cj : Plan := .al (.o 51 (.call 26 []) [.t 48, .t 50]) ( .take (.o 52 (.un .not) [.t 51]) <| .done)
def CD : ACode := .seq (.reg [.o 2 .box [.t 0], .o 4 .mv [.kb false]]) <| .seq (.seq (.reg [.m 16 1, .o 17 (.len true) [.t 16], .o 18 (.bin .gtr 0) [.t 17, .k 1048576]]) <| .cond (.t 18) ( .seq (.reg [.o 4 .mv [.kb true]]) <| .ret) ( .skip)) <| .seq (.reg [.o 5 .mv [.k 1048576]]) <| .seq (.reg [.la 19 6 2, .m 20 5, .o 21 (.call 23 []) [.t 19, .t 20], .m 5 21]) <| .seq (.seq (.reg [.m 22 5, .o 23 (.bin .lss 0) [.t 22, .k 0]]) <| .cond (.t 23) ( .seq (.reg [.o 4 .mv [.kb true]]) <| .ret) ( .skip)) <| .seq (.reg [.la 25 6 2, .o 26 (.call 25 []) [.t 25], .m 27 1, .o 28 (.call 24 []) [.t 26, .t 27], .m 24 28, .e 29 0 24, .e 30 1 24, .o 6 (.alloc bz) [], .s (.store 6) [.t 6, .t 29], .m 7 30]) <| .seq (.reg [.la 31 6 2, .o 32 (.call 25 []) [.t 31], .o 8 (.alloc bz) [], .s (.store 6) [.t 8, .t 32]]) <| .seq (.reg [.la 34 6 8, .m 35 1, .o 36 (.call 19 []) [.t 34, .t 35], .m 33 36, .e 37 0 33, .e 38 1 33, .o 9 (.alloc bz) [], .s (.store 6) [.t 9, .t 37], .m 10 38]) <| .seq (.seq (.reg [.la 39 6 9, .la 40 6 6, .o 41 (.call 26 []) [.t 39, .t 40], .o 42 (.un .not) [.t 41], .m 43 42, .mg 44 10 43 false, .mg 45 7 43 false, .g 46 (.bin .neq 1) [.t 44, .t 45] 43 false, .o 47 .pick [.t 43, .kb true, .t 46]]) <| .cond (.t 47) ( .seq (.reg [.o 4 .mv [.kb false]]) <| .ret) ( .skip)) <| .seq (.seq (.draw ( .alt (.la 48 6 8) ( .al (.la 49 6 2) ( .al (.o 50 (.call 25 []) [.t 49]) Cj)) <| .al (.la 49 6 2) ( .alt (.la 48 6 8) ( .al (.o 50 (.call 25 []) [.t 49]) Cj) <| .al (.o 50 (.call 25 []) [.t 49]) ( .al (.la 48 6 8) Cj)))) <| .cond (.t 52) ( .seq (.reg [.o 4 .mv [.kb false]]) <| .ret) ( .skip)) <| .gc [] [1, 2, 6, 7, 8, 9, 10] Ci
theorem DW : cFn Tryz.prog DV 104 [.t 4] CD := ⟨Tryz.f5, _, Tryz.func5, rfl, by kernel_rfl, by kernel_rfl, by kernel_rfl, by kernel_rfl⟩
@[simp] abbrev Ah : Nat := 24
abbrev Be : Plan := .al (.o 56 (.call 73 []) [.t 51, .t 55]) ( .take (.m 50 56) <| .take (.e 57 0 50) <| .take (.e 58 1 50) <| .al (.s (.store 6) [.t 13, .t 57]) ( .take (.m 14 58) <| .done))
abbrev Gd : Plan := .alt (.o 56 (.call 73 []) [.t 51, .t 55]) ( .take (.m 50 56) <| .take (.e 57 0 50) <| .take (.e 58 1 50) <| .al (.o 13 (.alloc bz) []) ( .al (.s (.store 6) [.t 13, .t 57]) ( .take (.m 14 58) <| .done))) <| .al (.o 13 (.alloc bz) []) Be
def De : ACode := .seq (.seq (.reg [.m 44 12, .m 45 11, .n 46 45, .o 47 (.bin .lss 0) [.t 44, .t 46]]) <| .cond (.t 47) ( .skip) ( .exit 1)) <| .seq (.block 2 ( .seq (.draw ( .take (.m 52 11) <| .take (.m 53 12) <| .take (.o 54 (.iadr 3) [.t 52, .t 53]) <| .alt (.la 51 6 8) ( .alt (.la 55 3 54) Gd <| .al (.o 13 (.alloc bz) []) ( .al (.la 55 3 54) Be)) <| .alt (.la 55 3 54) ( .alt (.la 51 6 8) Gd <| .al (.o 13 (.alloc bz) []) ( .al (.la 51 6 8) Be)) <| .al (.o 13 (.alloc bz) []) ( .alt (.la 51 6 8) ( .al (.la 55 3 54) Be) <| .al (.la 55 3 54) ( .al (.la 51 6 8) Be)))) <| .reg [.la 59 6 13, .s (.store 6) [.t 8, .t 59]])) <| .reg [.m 48 12, .o 49 (.bin .add 0) [.t 48, .k 1], .m 12 49]
abbrev Ae : Plan := .al (.o 115 (.call 81 []) [.t 110, .t 112, .t 114]) ( .al (.o 116 (.call 74 []) [.t 115, .c (.v (.string ⟨#[121, 101, 115]⟩))]) ( .al (.s (.store 6) [.t 4, .t 108]) ( .take (.m 5 116) <| .done)))
abbrev FM : Plan := .alt (.la 108 6 8) Ae <| .al (.o 115 (.call 81 []) [.t 110, .t 112, .t 114]) ( .alt (.la 108 6 8) ( .al (.o 116 (.call 74 []) [.t 115, .c (.v (.string ⟨#[121, 101, 115]⟩))]) ( .al (.s (.store 6) [.t 4, .t 108]) ( .take (.m 5 116) <| .done))) <| .al (.o 116 (.call 74 []) [.t 115, .c (.v (.string ⟨#[121, 101, 115]⟩))]) ( .al (.la 108 6 8) ( .al (.s (.store 6) [.t 4, .t 108]) ( .take (.m 5 116) <| .done))))
abbrev CT : Plan := .al (.o 73 (.call 76 []) [.t 70, .t 72]) ( .al (.s (.store 6) [.t 4, .t 68]) ( .take (.m 5 73) <| .done))
abbrev CU : Plan := .al (.o 82 (.call 77 []) [.t 79, .t 81]) ( .al (.s (.store 6) [.t 4, .t 77]) ( .take (.m 5 82) <| .done))
abbrev FN : Plan := .al (.o 104 (.call 74 []) [.t 103, .c (.v (.string ⟨#[121, 101, 115]⟩))]) ( .al (.s (.store 6) [.t 4, .t 101]) ( .take (.m 5 104) <| .done))
abbrev FO : Plan := .al (.o 89 (.call 78 []) [.t 88]) ( .al (.s (.store 6) [.t 4, .t 86]) ( .take (.m 5 89) <| .done))
abbrev JG : Plan := .alt (.la 68 6 8) CT <| .al (.o 73 (.call 76 []) [.t 70, .t 72]) ( .al (.la 68 6 8) ( .al (.s (.store 6) [.t 4, .t 68]) ( .take (.m 5 73) <| .done)))
abbrev JH : Plan := .alt (.la 77 6 8) CU <| .al (.o 82 (.call 77 []) [.t 79, .t 81]) ( .al (.la 77 6 8) ( .al (.s (.store 6) [.t 4, .t 77]) ( .take (.m 5 82) <| .done)))
abbrev FP : Plan := .al (.s (.store 6) [.t 4, .t 93]) ( .take (.m 5 97) <| .done)
abbrev JI : Plan := .alt (.la 110 3 109) ( .al (.l 114 113) Ae) <| .al (.l 114 113) ( .al (.la 110 3 109) Ae)
abbrev Hq : Plan := .alt (.la 110 3 109) ( .al (.l 112 111) Ae) <| .al (.l 112 111) ( .al (.la 110 3 109) Ae)
abbrev Hr : Plan := .alt (.l 112 111) ( .al (.l 114 113) Ae) <| .al (.l 114 113) ( .al (.l 112 111) Ae)
abbrev Hs : Plan := .alt (.la 108 6 8) ( .al (.la 110 3 109) Ae) <| .al (.la 110 3 109) FM
abbrev Ht : Plan := .alt (.la 108 6 8) ( .al (.l 114 113) Ae) <| .al (.l 114 113) FM
abbrev Hu : Plan := .alt (.la 108 6 8) ( .al (.l 112 111) Ae) <| .al (.l 112 111) FM
abbrev Hv : Plan := .al (.s (.store 6) [.t 4, .t 133]) ( .take (.m 5 137) <| .done)
abbrev Hw : Plan := .al (.s (.store 6) [.t 4, .t 36]) ( .take (.m 5 38) <| .done)
def Ai : ACode := .seq (.reg [.o 2 .box [.t 0], .o 4 (.alloc bz) [], .o 5 .mv [.c (.v (.string ⟨#[]⟩))]]) <| .seq (.seq (.reg [.la 17 6 2, .o 18 (.call 18 []) [.t 17], .o 19 (.un .not) [.t 18]]) <| .cond (.t 19) ( .seq (.reg [.o 20 (.build bz []) [], .s (.store 6) [.t 4, .t 20], .o 5 .mv [.c (.v (.string ⟨#[]⟩))]]) <| .ret) ( .skip)) <| .seq (.reg [.m 22 1, .o 23 (.call 56 []) [.t 22], .m 21 23, .e 24 0 21, .e 25 1 21, .o 6 (.alloc dz) [], .s (.store 3) [.t 6, .t 24], .m 7 25]) <| .seq (.reg [.la 26 6 2, .o 27 (.call 72 []) [.t 26], .o 8 (.alloc bz) [], .s (.store 6) [.t 8, .t 27]]) <| .seq (.block 0 ( .seq (.reg [.m 29 7, .m 28 29]) <| .cond (.t 28) ( .seq (.reg [.la 31 6 2, .la 32 3 6, .o 33 (.call 73 []) [.t 31, .t 32], .m 30 33, .e 34 0 30, .e 35 1 30, .o 9 (.alloc bz) [], .s (.store 6) [.t 9, .t 34], .m 10 35]) <| .seq (.draw ( .take (.m 37 10) <| .alt (.la 36 6 9) ( .al (.o 38 (.call 74 []) [.t 37, .c (.v (.string ⟨#[111, 107]⟩))]) Hw) <| .al (.o 38 (.call 74 []) [.t 37, .c (.v (.string ⟨#[111, 107]⟩))]) ( .al (.la 36 6 9) Hw))) <| .ret) ( .seq (.reg [.m 40 1, .o 41 (.bin .eql 1) [.t 40, .c (.v (.string ⟨#[101, 110, 100]⟩))], .m 39 41]) <| .cond (.t 39) ( .seq (.reg [.la 42 6 2, .o 43 (.call 75 []) [.t 42], .m 11 43]) <| .seq (.seq (.reg [.o 12 .mv [.k 0]]) <| .block 1 ( .loop [(11, 3)] [4, 8, 11, 12] De)) <| .seq (.seq (.reg [.m 60 11, .n 61 60, .o 62 (.bin .eql 0) [.t 61, .k 0]]) <| .cond (.t 62) ( .seq (.reg [.la 63 6 8, .s (.store 6) [.t 4, .t 63], .o 5 .mv [.c (.v (.string ⟨#[110, 111, 110, 101]⟩))]]) <| .ret) ( .skip)) <| .seq (.reg [.la 64 6 8, .s (.store 6) [.t 4, .t 64], .o 5 .mv [.c (.v (.string ⟨#[111, 107]⟩))]]) <| .ret) ( .seq (.reg [.m 66 1, .o 67 (.bin .eql 1) [.t 66, .c (.v (.string ⟨#[115, 104, 111, 119]⟩))], .m 65 67]) <| .cond (.t 65) ( .seq (.draw ( .take (.f 69 0 2) <| .take (.f 71 4 2) <| .alt (.la 68 6 8) ( .alt (.la 70 3 69) ( .al (.l 72 71) CT) <| .al (.l 72 71) ( .al (.la 70 3 69) CT)) <| .alt (.la 70 3 69) ( .alt (.la 68 6 8) ( .al (.l 72 71) CT) <| .al (.l 72 71) JG) <| .al (.l 72 71) ( .alt (.la 68 6 8) ( .al (.la 70 3 69) CT) <| .al (.la 70 3 69) JG))) <| .ret) ( .seq (.reg [.m 75 1, .o 76 (.bin .eql 1) [.t 75, .c (.v (.string ⟨#[100, 105, 103, 105, 116, 115]⟩))], .m 74 76]) <| .cond (.t 74) ( .seq (.draw ( .take (.f 78 0 2) <| .take (.f 80 3 2) <| .alt (.la 77 6 8) ( .alt (.la 79 3 78) ( .al (.l 81 80) CU) <| .al (.l 81 80) ( .al (.la 79 3 78) CU)) <| .alt (.la 79 3 78) ( .alt (.la 77 6 8) ( .al (.l 81 80) CU) <| .al (.l 81 80) JH) <| .al (.l 81 80) ( .alt (.la 77 6 8) ( .al (.la 79 3 78) CU) <| .al (.la 79 3 78) JH))) <| .ret) ( .seq (.reg [.m 84 1, .o 85 (.bin .eql 1) [.t 84, .c (.v (.string ⟨#[108, 101, 102, 116]⟩))], .m 83 85]) <| .cond (.t 83) ( .seq (.draw ( .alt (.la 86 6 8) ( .al (.la 87 6 2) ( .al (.o 88 (.call 79 []) [.t 87]) FO)) <| .al (.la 87 6 2) ( .alt (.la 86 6 8) ( .al (.o 88 (.call 79 []) [.t 87]) FO) <| .al (.o 88 (.call 79 []) [.t 87]) ( .alt (.la 86 6 8) FO <| .al (.o 89 (.call 78 []) [.t 88]) ( .al (.la 86 6 8) ( .al (.s (.store 6) [.t 4, .t 86]) ( .take (.m 5 89) <| .done))))))) <| .ret) ( .seq (.reg [.m 91 1, .o 92 (.bin .eql 1) [.t 91, .c (.v (.string ⟨#[112, 97, 115, 116]⟩))], .m 90 92]) <| .cond (.t 90) ( .seq (.draw ( .take (.f 94 5 2) <| .alt (.la 93 6 8) ( .al (.l 95 94) ( .take (.n 96 95) <| .al (.o 97 (.call 78 []) [.t 96]) FP)) <| .al (.l 95 94) ( .take (.n 96 95) <| .alt (.la 93 6 8) ( .al (.o 97 (.call 78 []) [.t 96]) FP) <| .al (.o 97 (.call 78 []) [.t 96]) ( .al (.la 93 6 8) FP)))) <| .ret) ( .seq (.reg [.m 99 1, .o 100 (.bin .eql 1) [.t 99, .c (.v (.string ⟨#[115, 111, 108, 118, 101, 100]⟩))], .m 98 100]) <| .cond (.t 98) ( .seq (.draw ( .alt (.la 101 6 8) ( .al (.la 102 6 2) ( .al (.o 103 (.call 80 []) [.t 102]) FN)) <| .al (.la 102 6 2) ( .alt (.la 101 6 8) ( .al (.o 103 (.call 80 []) [.t 102]) FN) <| .al (.o 103 (.call 80 []) [.t 102]) ( .alt (.la 101 6 8) FN <| .al (.o 104 (.call 74 []) [.t 103, .c (.v (.string ⟨#[121, 101, 115]⟩))]) ( .al (.la 101 6 8) ( .al (.s (.store 6) [.t 4, .t 101]) ( .take (.m 5 104) <| .done))))))) <| .ret) ( .seq (.reg [.m 106 1, .o 107 (.bin .eql 1) [.t 106, .c (.v (.string ⟨#[100, 101, 97, 100]⟩))], .m 105 107]) <| .cond (.t 105) ( .seq (.draw ( .take (.f 109 0 2) <| .take (.f 111 3 2) <| .take (.f 113 4 2) <| .alt (.la 108 6 8) ( .alt (.la 110 3 109) Hr <| .alt (.l 112 111) JI <| .al (.l 114 113) Hq) <| .alt (.la 110 3 109) ( .alt (.la 108 6 8) Hr <| .alt (.l 112 111) Ht <| .al (.l 114 113) Hu) <| .alt (.l 112 111) ( .alt (.la 108 6 8) JI <| .alt (.la 110 3 109) Ht <| .al (.l 114 113) Hs) <| .al (.l 114 113) ( .alt (.la 108 6 8) Hq <| .alt (.la 110 3 109) Hu <| .al (.l 112 111) Hs))) <| .ret) ( .seq (.reg [.m 118 1, .o 119 (.bin .eql 1) [.t 118, .c (.v (.string ⟨#[104, 105, 110, 116]⟩))], .m 117 119]) <| .cond (.t 117) ( .seq (.reg [.f 121 0 2, .la 122 3 121, .f 123 3 2, .l 124 123, .f 125 4 2, .l 126 125, .o 127 (.call 82 []) [.t 122, .t 124, .t 126], .m 120 127, .e 128 0 120, .e 129 1 120, .m 15 128, .m 16 129]) <| .seq (.seq (.reg [.m 130 15, .o 131 (.bin .lss 0) [.t 130, .k 0]]) <| .cond (.t 131) ( .seq (.reg [.la 132 6 8, .s (.store 6) [.t 4, .t 132], .o 5 .mv [.c (.v (.string ⟨#[110, 111, 110, 101]⟩))]]) <| .ret) ( .skip)) <| .seq (.draw ( .take (.m 134 15) <| .take (.m 135 16) <| .take (.o 136 (.build dz [(0, 1), (1, 1), (2, 1)]) [.k 0, .t 134, .t 135]) <| .alt (.la 133 6 8) ( .al (.o 137 (.call 48 []) [.t 136]) Hv) <| .al (.o 137 (.call 48 []) [.t 136]) ( .al (.la 133 6 8) Hv))) <| .ret) ( .skip))))))))))) <| .seq (.reg [.la 138 6 8, .s (.store 6) [.t 4, .t 138], .o 5 .mv [.c (.v (.string ⟨#[119, 104, 97, 116]⟩))]]) <| .ret
theorem Al : cFn Tryz.prog Ah 139 [.c 4 true 6, .t 5] Ai := ⟨Tryz.f24, _, Tryz.func24, rfl, by kernel_rfl, by kernel_rfl, by kernel_rfl, by kernel_rfl⟩
end Go.Proofs.Dev
