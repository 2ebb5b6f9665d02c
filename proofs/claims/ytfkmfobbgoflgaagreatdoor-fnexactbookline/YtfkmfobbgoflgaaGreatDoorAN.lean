/- Contracts of the functions of the program over slots and rows, each proved against the program itself; no condition beyond those that each theorem names. -/
import Derived.Test.YtfkmfobbgoflgaaGreatDoorAM
import Derived.Test.YtfkmfobbgoflgaaGreatDoorProg
import Derived.Test.YtfkmfobbgoflgaaGreatDoorAH
import Derived.Test.YtfkmfobbgoflgaaGreatDoorAK
import Derived.SliceStrings
import Derived.Test.YtfkmfobbgoflgaaGreatDoorAI
set_option linter.unusedSimpArgs false
set_option linter.unusedVariables false
set_option maxRecDepth 100000
namespace Go.Proofs.Dev
@[simp] abbrev QM : Nat := 70
def QN : ACode := .seq (.reg [.o 4 .mv [.k 0]]) <| .seq (.reg [.m 5 1, .m 6 0, .n 7 6, .o 8 (.bin .sub 0) [.t 5, .t 7], .m 1 8]) <| .seq (.seq (.reg [.m 9 1, .o 10 (.bin .lss 0) [.t 9, .k 0]]) <| .cond (.t 10) ( .seq (.reg [.o 4 .mv [.k (-1)]]) <| .ret) ( .skip)) <| .seq (.reg [.m 11 1, .m 4 11]) <| .ret
theorem XA : cFn Tryz.prog QM 12 [.t 4] QN := ⟨Tryz.f70, _, Tryz.func70, rfl, by kernel_rfl, by kernel_rfl, by kernel_rfl, by kernel_rfl⟩
@[simp] abbrev ON : Nat := 71
def GW : ACode := .seq (.seq (.reg [.m 12 5, .m 13 0, .n 14 13, .o 15 (.bin .lss 0) [.t 12, .t 14]]) <| .cond (.t 15) ( .skip) ( .exit 0)) <| .seq (.block 1 ( .seq (.reg [.m 18 0, .m 19 5, .o 20 (.iadr 1) [.t 18, .t 19], .l 21 20, .m 22 1, .o 23 (.call 70 []) [.t 21, .t 22], .m 1 23]) <| .seq (.reg [.m 24 1, .o 25 (.bin .lss 0) [.t 24, .k 0]]) <| .cond (.t 25) ( .seq (.reg [.o 4 .mv [.k (-1)]]) <| .ret) ( .skip))) <| .reg [.m 16 5, .o 17 (.bin .add 0) [.t 16, .k 1], .m 5 17]
def OO : ACode := .seq (.reg [.o 4 .mv [.k 0]]) <| .seq (.reg [.m 6 1, .m 7 0, .n 8 7, .o 9 (.bin .sub 0) [.t 6, .t 8], .m 1 9]) <| .seq (.seq (.reg [.m 10 1, .o 11 (.bin .lss 0) [.t 10, .k 0]]) <| .cond (.t 11) ( .seq (.reg [.o 4 .mv [.k (-1)]]) <| .ret) ( .skip)) <| .seq (.seq (.reg [.o 5 .mv [.k 0]]) <| .block 0 ( .loop [(0, 1)] [0, 1, 5] GW)) <| .seq (.reg [.m 26 1, .m 4 26]) <| .ret
theorem VL : cFn Tryz.prog ON 27 [.t 4] OO := ⟨Tryz.f71, _, Tryz.func71, rfl, by kernel_rfl, by kernel_rfl, by kernel_rfl, by kernel_rfl⟩
@[simp] abbrev OP : Nat := 85
def GX : ACode := .seq (.seq (.reg [.m 8 4, .m 9 0, .n 10 9, .o 11 (.bin .lss 0) [.t 8, .t 10]]) <| .cond (.t 11) ( .skip) ( .exit 0)) <| .seq (.block 1 ( .reg [.m 14 3, .m 15 4, .m 16 0, .m 17 4, .o 18 (.iadr 1) [.t 16, .t 17], .l 19 18, .o 20 (.call 84 []) [.t 19], .o 21 (.iadr 1) [.t 14, .t 15], .s (.store 1) [.t 21, .t 20]])) <| .reg [.m 12 4, .o 13 (.bin .add 0) [.t 12, .k 1], .m 4 13]
def OQ : ACode := .seq (.reg [.o 2 .mv [.c (.os 1 [])]]) <| .seq (.reg [.m 5 0, .n 6 5, .o 7 (.mksl 1 24 (.os 1 [])) [.t 6, .t 6], .m 3 7]) <| .seq (.seq (.reg [.o 4 .mv [.k 0]]) <| .block 0 ( .loop [(0, 1), (3, 1)] [0, 3, 4] GX)) <| .seq (.reg [.m 22 3, .m 2 22]) <| .ret
theorem VM : cFn Tryz.prog OP 23 [.t 2] OQ := ⟨Tryz.f85, _, Tryz.func85, rfl, by kernel_rfl, by kernel_rfl, by kernel_rfl, by kernel_rfl⟩
@[simp] abbrev QO : Nat := 23
def QP : ACode := .seq (.reg [.o 2 .box [.t 0], .o 4 .mv [.k 0]]) <| .seq (.reg [.f 5 0 2, .la 6 3 5, .m 7 1, .o 8 (.call 69 []) [.t 6, .t 7], .m 1 8]) <| .seq (.seq (.reg [.m 9 1, .o 10 (.bin .lss 0) [.t 9, .k 0]]) <| .cond (.t 10) ( .seq (.reg [.o 4 .mv [.k (-1)]]) <| .ret) ( .skip)) <| .seq (.reg [.f 11 3 2, .l 12 11, .m 13 1, .o 14 (.call 70 []) [.t 12, .t 13], .m 1 14]) <| .seq (.seq (.reg [.m 15 1, .o 16 (.bin .lss 0) [.t 15, .k 0]]) <| .cond (.t 16) ( .seq (.reg [.o 4 .mv [.k (-1)]]) <| .ret) ( .skip)) <| .seq (.reg [.f 17 4 2, .l 18 17, .m 19 1, .o 20 (.call 70 []) [.t 18, .t 19], .m 1 20]) <| .seq (.seq (.reg [.m 21 1, .o 22 (.bin .lss 0) [.t 21, .k 0]]) <| .cond (.t 22) ( .seq (.reg [.o 4 .mv [.k (-1)]]) <| .ret) ( .skip)) <| .seq (.reg [.f 23 5 2, .l 24 23, .m 25 1, .o 26 (.call 71 []) [.t 24, .t 25], .m 1 26]) <| .seq (.seq (.reg [.m 27 1, .o 28 (.bin .lss 0) [.t 27, .k 0]]) <| .cond (.t 28) ( .seq (.reg [.o 4 .mv [.k (-1)]]) <| .ret) ( .skip)) <| .seq (.reg [.m 29 1, .m 4 29]) <| .ret
theorem XB : cFn Tryz.prog QO 30 [.t 4] QP := ⟨Tryz.f23, _, Tryz.func23, rfl, by kernel_rfl, by kernel_rfl, by kernel_rfl, by kernel_rfl⟩
@[simp] abbrev QQ : Nat := 25
def QR : ACode := .seq (.reg [.o 1 .box [.t 0], .o 2 (.alloc bz) []]) <| .seq (.reg [.o 3 (.alloc bz) []]) <| .seq (.reg [.f 4 0 1, .la 5 3 4, .o 6 (.call 83 []) [.t 5], .f 7 0 3, .s (.store 3) [.t 7, .t 6]]) <| .seq (.reg [.f 8 3 1, .l 9 8, .o 10 (.call 84 []) [.t 9], .f 11 3 3, .s (.store 1) [.t 11, .t 10]]) <| .seq (.reg [.f 12 4 1, .l 13 12, .o 14 (.call 84 []) [.t 13], .f 15 4 3, .s (.store 1) [.t 15, .t 14]]) <| .seq (.reg [.f 16 5 1, .l 17 16, .o 18 (.call 85 []) [.t 17], .f 19 5 3, .s (.store 1) [.t 19, .t 18]]) <| .seq (.reg [.la 20 6 3, .s (.store 6) [.t 2, .t 20]]) <| .ret
theorem XC : cFn Tryz.prog QQ 21 [.c 2 true 6] QR := ⟨Tryz.f25, _, Tryz.func25, rfl, by kernel_rfl, by kernel_rfl, by kernel_rfl, by kernel_rfl⟩
@[simp] abbrev OR : Nat := 88
abbrev HN : Plan := .al (.o 25 (.call 87 []) [.t 20, .t 24]) ( .take (.o 26 (.un .not) [.t 25]) <| .done)
def GY : ACode := .seq (.seq (.reg [.m 11 5, .m 12 0, .n 13 12, .o 14 (.bin .lss 0) [.t 11, .t 13]]) <| .cond (.t 14) ( .skip) ( .exit 0)) <| .seq (.block 1 ( .seq (.draw ( .take (.m 17 0) <| .take (.m 18 5) <| .take (.o 19 (.iadr 1) [.t 17, .t 18]) <| .take (.m 21 1) <| .take (.m 22 5) <| .take (.o 23 (.iadr 1) [.t 21, .t 22]) <| .alt (.l 20 19) ( .al (.l 24 23) HN) <| .al (.l 24 23) ( .al (.l 20 19) HN))) <| .cond (.t 26) ( .seq (.reg [.o 4 .mv [.kb false]]) <| .ret) ( .skip))) <| .reg [.m 15 5, .o 16 (.bin .add 0) [.t 15, .k 1], .m 5 16]
def OS : ACode := .seq (.reg [.o 4 .mv [.kb false]]) <| .seq (.seq (.reg [.m 6 0, .n 7 6, .m 8 1, .n 9 8, .o 10 (.bin .neq 0) [.t 7, .t 9]]) <| .cond (.t 10) ( .seq (.reg [.o 4 .mv [.kb false]]) <| .ret) ( .skip)) <| .seq (.seq (.reg [.o 5 .mv [.k 0]]) <| .block 0 ( .loop [(0, 1), (1, 1)] [0, 1, 5] GY)) <| .seq (.reg [.o 4 .mv [.kb true]]) <| .ret
theorem VN : cFn Tryz.prog OR 27 [.t 4] OS := ⟨Tryz.f88, _, Tryz.func88, rfl, by kernel_rfl, by kernel_rfl, by kernel_rfl, by kernel_rfl⟩
@[simp] abbrev QS : Nat := 26
def QT : ACode := .seq (.reg [.o 2 .box [.t 0], .o 3 .box [.t 1], .o 4 .mv [.kb false]]) <| .seq (.seq (.reg [.f 5 0 2, .la 6 3 5, .f 7 0 3, .la 8 3 7, .o 9 (.call 86 []) [.t 6, .t 8], .o 10 (.un .not) [.t 9]]) <| .cond (.t 10) ( .seq (.reg [.o 4 .mv [.kb false]]) <| .ret) ( .skip)) <| .seq (.seq (.reg [.f 11 3 2, .l 12 11, .f 13 3 3, .l 14 13, .o 15 (.call 87 []) [.t 12, .t 14], .o 16 (.un .not) [.t 15]]) <| .cond (.t 16) ( .seq (.reg [.o 4 .mv [.kb false]]) <| .ret) ( .skip)) <| .seq (.seq (.reg [.f 17 4 2, .l 18 17, .f 19 4 3, .l 20 19, .o 21 (.call 87 []) [.t 18, .t 20], .o 22 (.un .not) [.t 21]]) <| .cond (.t 22) ( .seq (.reg [.o 4 .mv [.kb false]]) <| .ret) ( .skip)) <| .seq (.seq (.reg [.f 23 5 2, .l 24 23, .f 25 5 3, .l 26 25, .o 27 (.call 88 []) [.t 24, .t 26], .o 28 (.un .not) [.t 27]]) <| .cond (.t 28) ( .seq (.reg [.o 4 .mv [.kb false]]) <| .ret) ( .skip)) <| .seq (.reg [.o 4 .mv [.kb true]]) <| .ret
theorem XD : cFn Tryz.prog QS 29 [.t 4] QT := ⟨Tryz.f26, _, Tryz.func26, rfl, by kernel_rfl, by kernel_rfl, by kernel_rfl, by kernel_rfl⟩
@[simp] abbrev HG : Nat := 18
abbrev AN : Plan := .al (.o 20 (.call 59 []) [.t 12, .t 14, .t 19]) ( .take (.o 21 (.un .not) [.t 20]) <| .done)
abbrev GC : Plan := .al (.l 16 15) ( .take (.o 18 (.iadr 1) [.t 16, .t 17]) <| .al (.l 19 18) AN)
def E7 : ACode := .seq (.seq (.reg [.m 4 3, .f 5 5 1, .l 6 5, .n 7 6, .o 8 (.bin .lss 0) [.t 4, .t 7]]) <| .cond (.t 8) ( .skip) ( .exit 0)) <| .seq (.block 1 ( .seq (.draw ( .take (.f 11 0 1) <| .take (.f 13 3 1) <| .take (.f 15 5 1) <| .take (.m 17 3) <| .alt (.la 12 3 11) ( .alt (.l 14 13) GC <| .al (.l 16 15) ( .take (.o 18 (.iadr 1) [.t 16, .t 17]) <| .alt (.l 14 13) ( .al (.l 19 18) AN) <| .al (.l 19 18) ( .al (.l 14 13) AN))) <| .alt (.l 14 13) ( .alt (.la 12 3 11) GC <| .al (.l 16 15) ( .take (.o 18 (.iadr 1) [.t 16, .t 17]) <| .alt (.la 12 3 11) ( .al (.l 19 18) AN) <| .al (.l 19 18) ( .al (.la 12 3 11) AN))) <| .al (.l 16 15) ( .take (.o 18 (.iadr 1) [.t 16, .t 17]) <| .alt (.la 12 3 11) ( .alt (.l 14 13) ( .al (.l 19 18) AN) <| .al (.l 19 18) ( .al (.l 14 13) AN)) <| .alt (.l 14 13) ( .alt (.la 12 3 11) ( .al (.l 19 18) AN) <| .al (.l 19 18) ( .al (.la 12 3 11) AN)) <| .al (.l 19 18) ( .alt (.la 12 3 11) ( .al (.l 14 13) AN) <| .al (.l 14 13) ( .al (.la 12 3 11) AN))))) <| .cond (.t 21) ( .seq (.reg [.o 2 .mv [.kb false]]) <| .ret) ( .skip))) <| .reg [.m 9 3, .o 10 (.bin .add 0) [.t 9, .k 1], .m 3 10]
def Lh : ACode := .seq (.reg [.o 1 .box [.t 0], .o 2 .mv [.kb false]]) <| .seq (.seq (.reg [.o 3 .mv [.k 0]]) <| .block 0 ( .loop [] [1, 3] E7)) <| .seq (.reg [.f 22 0 1, .la 23 3 22, .f 24 3 1, .l 25 24, .f 26 4 1, .l 27 26, .o 28 (.call 59 []) [.t 23, .t 25, .t 27], .m 29 28, .fg 30 5 1 29 true, .lg 31 30 29 true, .g 32 (.len false) [.t 31] 29 true, .g 33 (.bin .leq 0) [.t 32, .k 20] 29 true, .o 34 .pick [.t 29, .t 33, .kb false], .m 2 34]) <| .ret
theorem SY : cFn Tryz.prog HG 35 [.t 2] Lh := ⟨Tryz.f18, _, Tryz.func18, rfl, by kernel_rfl, by kernel_rfl, by kernel_rfl, by kernel_rfl⟩
@[simp] abbrev Jg : Nat := 100
def Jh : ACode := .seq (.reg [.o 3 .mv [.kb false]]) <| .seq (.reg [.f 4 0 1, .la 5 3 4, .f 6 3 1, .l 7 6, .m 8 0, .o 9 (.call 98 []) [.t 5, .t 7, .t 8], .o 10 (.un .not) [.t 9], .m 3 10]) <| .ret
theorem QU : cFn Tryz.prog Jg 11 [.t 3] Jh := ⟨Tryz.f100, _, Tryz.func100, rfl, by kernel_rfl, by kernel_rfl, by kernel_rfl, by kernel_rfl⟩
@[simp] abbrev EY : Nat := 155
def Bl : ACode := .seq (.reg [.o 9 (.bin .lss 0) [.t 8, .t 7]]) <| .seq (.cond (.t 9) ( .skip) ( .exit 0)) <| .seq (.block 1 ( .seq (.reg [.m 10 8, .m 5 10]) <| .seq (.reg [.m 11 1, .m 12 0, .m 13 5, .o 14 (.iadr 1) [.t 12, .t 13], .l 15 14, .o 16 (.callv []) [.t 11, .t 15]]) <| .cond (.t 16) ( .seq (.reg [.m 17 5, .m 4 17]) <| .ret) ( .skip))) <| .reg [.o 18 (.bin .add 0) [.t 8, .k 1], .m 8 18]
def EZ : ACode := .seq (.reg [.o 4 .mv [.k 0]]) <| .seq (.seq (.reg [.m 6 0, .n 7 6, .o 8 .mv [.k 0]]) <| .block 0 ( .loop [(0, 1)] [0, 1, 7, 8] Bl)) <| .seq (.reg [.o 4 .mv [.k (-1)]]) <| .ret
theorem I9 : cFn Tryz.prog EY 19 [.t 4] EZ := ⟨Tryz.f155, _, Tryz.func155, rfl, by kernel_rfl, by kernel_rfl, by kernel_rfl, by kernel_rfl⟩
@[simp] abbrev DV : Nat := 99
def DW : ACode := .seq (.reg [.o 4 .mv [.kb false]]) <| .seq (.reg [.m 5 0, .m 6 1, .o 7 (.call 155 []) [.t 5, .t 6], .o 8 (.bin .geq 0) [.t 7, .k 0], .m 4 8]) <| .ret
theorem HH : cFn Tryz.prog DV 9 [.t 4] DW := ⟨Tryz.f99, _, Tryz.func99, rfl, by kernel_rfl, by kernel_rfl, by kernel_rfl, by kernel_rfl⟩
@[simp] abbrev Li : Nat := 38
def Lj : ACode := .seq (.reg [.o 1 .box [.t 0], .o 2 .mv [.kb false]]) <| .seq (.reg [.f 3 0 1, .la 4 3 3, .f 5 3 1, .l 6 5, .f 7 4 1, .l 8 7, .o 9 (.call 98 []) [.t 4, .t 6, .t 8], .m 10 9, .fg 11 5 1 10 true, .lg 12 11 10 true, .g 13 (.len false) [.t 12] 10 true, .g 14 (.bin .leq 0) [.t 13, .k 20] 10 true, .o 15 .pick [.t 10, .t 14, .kb false], .m 16 15, .fg 17 5 1 16 true, .lg 18 17 16 true, .g 19 (.mkfn 100) [.t 1] 16 true, .g 20 (.call 99 []) [.t 18, .t 19] 16 true, .g 21 (.un .not) [.t 20] 16 true, .o 22 .pick [.t 16, .t 21, .kb false], .m 2 22]) <| .ret
theorem SZ : cFn Tryz.prog Li 23 [.t 2] Lj := ⟨Tryz.f38, _, Tryz.func38, rfl, by kernel_rfl, by kernel_rfl, by kernel_rfl, by kernel_rfl⟩
@[simp] abbrev Kb : Nat := 80
def Kc : ACode := .seq (.reg [.o 1 .box [.t 0], .o 2 .mv [.kb false]]) <| .seq (.reg [.la 3 6 1, .o 4 (.call 18 []) [.t 3], .m 5 4, .fg 6 0 1 5 true, .g 7 (.load true 3) [.t 6] 5 true, .fg 8 3 1 5 true, .lg 9 8 5 true, .fg 10 4 1 5 true, .lg 11 10 5 true, .g 12 (.call 148 []) [.t 7, .t 9, .t 11] 5 true, .o 13 .pick [.t 5, .t 12, .kb false], .m 2 13]) <| .ret
theorem RY : cFn Tryz.prog Kb 14 [.t 2] Kc := ⟨Tryz.f80, _, Tryz.func80, rfl, by kernel_rfl, by kernel_rfl, by kernel_rfl, by kernel_rfl⟩
def sls (c : Nat) (ps : List (List Int)) : List AV := ps.map fun p => .sl c 1 (AB p)
def oss (ps : List (List Int)) : List AV := ps.map fun p => .os 1 (AB p)
def pti (ps : List (List Int)) (i : Int) : List Int := ps.getD i.toNat []
@[simp] theorem kR (c : Nat) (ps : List (List Int)) : (sls c ps).length = ps.length := by simp [sls]
@[simp] theorem kS (ps : List (List Int)) : (oss ps).length = ps.length := by simp [oss]
@[simp] theorem nr (c : Nat) : sls c [] = [] := (rfl)
@[simp] theorem jX : oss [] = [] := (rfl)
@[simp] theorem kT (c : Nat) (ps : List (List Int)) : (sls c ps = []) = (ps = []) := by cases ps <;> simp [sls]
@[simp] theorem kU (ps : List (List Int)) : (oss ps = []) = (ps = []) := by cases ps <;> simp [oss]
theorem Kd (a b : List (List Int)) : oss (a ++ b) = oss a ++ oss b := by simp [oss]
theorem RZ (a : List Int) : oss [a] = [.os 1 (AB a)] := (rfl)
@[simp] theorem gr {c d : Nat} {k : IntKind} {ps : List (List Int)} {i : Int} : D2 1 (.sl c 1 (sls d ps)) (.v (.int k i)) = if 0 ≤ i ∧ i < ps.length then some (.vp c [.sl d 1 (AB (pti ps i))] 0) else none := by
  by_cases h : 0 ≤ i ∧ i < ps.length
  ·rw [if_pos h]
   have h1 : i.toNat < ps.length := by omega
   simp [D2, h.1, sls, pti, h1]
  ·rw [if_neg h]
   by_cases h0 : 0 ≤ i
   ·have : ¬ i.toNat < ps.length := by omega
    simp [D2, h0, sls, this]
   ·simp [D2, h0]
@[simp] theorem jY (c d : Nat) : ∀ ps : List (List Int), vwL c (sls d ps) = sls c ps
  | [] => rfl
  | p :: ps => by
    show vw c (.sl d 1 (AB p)) :: vwL c (sls d ps) = .sl c 1 (AB p) :: sls c ps
    rw [jY c d ps]; simp
@[simp] theorem jZ (c : Nat) : ∀ ps : List (List Int), vwL c (oss ps) = sls c ps
  | [] => rfl
  | p :: ps => by
    show vw c (.os 1 (AB p)) :: vwL c (oss ps) = .sl c 1 (AB p) :: sls c ps
    rw [jZ c ps]; simp
@[simp] theorem ja (c : Nat) : ∀ ps : List (List Int), okL (sls c ps) = true
  | [] => rfl
  | p :: ps => by show (okE (.sl c 1 (AB p)) && okL (sls c ps)) = true; rw [ja c ps]; simp
@[simp] theorem XE : ∀ ps : List (List Int), okL (oss ps) = true
  | [] => rfl
  | p :: ps => by show (okE (.os 1 (AB p)) && okL (oss ps)) = true; rw [XE ps]; simp
theorem dC (ps : List (List Int)) (i : Nat) (p : List Int) : (oss ps).set i (.os 1 (AB p)) = oss (ps.set i p) := by simp [oss, List.map_set]
theorem jb (n : Nat) : List.replicate n (.os 1 []) = oss (List.replicate n []) := by simp [oss]
theorem ff (n : Nat) (ps : List (List Int)) : (oss ps).take n = oss (ps.take n) := by simp [oss]
@[simp] theorem gt (ps : List (List Int)) : (oss ps).take ps.length = oss ps := by rw [ff, List.take_length]
theorem dD (ps : List (List Int)) (i : Nat) : pti ps (i : Int) = ps.getD i [] := by simp [pti]
theorem LF (xs : List Int) (left : Int) (h0 : 0 ≤ left) (h1 : left < 2 ^ 60) (hb : xs.length ≤ 9223372036854775807) :
  SoundAt Tryz.prog QM [.sl 1 1 (AB xs), .v (.int .i64 left)] (.v (.int .i64 (if left < xs.length then -1 else left - xs.length))) [.bot, .bot] := by
 refine AE (md := md0) (ms := [false, false]) XA (by simp) ?_
 simp [QN]
 omega
def Dn (ps : List (List Int)) : Nat := (ps.map List.length).sum
theorem UK (a b : List (List Int)) : Dn (a ++ b) = Dn a + Dn b := by
 unfold Dn; rw [List.map_append, List.sum_append]
theorem ED {ps : List (List Int)} {i : Nat} (h : i < ps.length) : pti ps i = ps[i] := by
 unfold pti; rw [Int.toNat_natCast, List.getD_eq_getElem?_getD, List.getElem?_eq_getElem h]; rfl
theorem QV {ps : List (List Int)} {i : Nat} (h : i < ps.length) : Dn (ps.take (i + 1)) = Dn (ps.take i) + (pti ps i).length := by
 rw [List.take_succ_eq_append_getElem h, UK, ED h]
 unfold Dn; rfl
theorem XF {ps : List (List Int)} {i : Nat} : Dn (ps.take i) ≤ Dn ps := by
 have h := UK (ps.take i) (ps.drop i)
 rw [List.take_append_drop] at h
 omega
theorem LG {ps : List (List Int)} {i : Nat} (h : i < ps.length) : pti ps i ∈ ps := by rw [ED h]; exact List.getElem_mem h
theorem mC {ps : List (List Int)} {i : Nat} (h : i < ps.length) : (pti ps i).length ≤ Dn ps := by
 have h1 := QV h
 have h2 := XF (ps := ps) (i := i + 1)
 omega
theorem VO (ps : List (List Int)) (left : Int) (h0 : 0 ≤ left) (h1 : left < 2 ^ 60) (hb : ps.length ≤ 9223372036854775807) (hp : ∀ p ∈ ps, p.length ≤ 9223372036854775807) :
  SoundAt Tryz.prog ON [.sl 1 1 (sls 1 ps), .v (.int .i64 left)] (.v (.int .i64 (if left < ps.length + Dn ps then -1 else left - (ps.length + Dn ps)))) [.bot, .bot] := by
 refine AE (md := md0) (ms := [false, false]) VL (by simp) ?_
 simp [OO]
 by_cases hn : left < ps.length
 ·have h2 : left < ps.length + Dn ps := by omega
  simp [hn, h2]
  omega
 have hn' : ¬ left - ps.length < 0 := by omega
 simp [hn']
 refine ⟨by omega, ?_⟩
 intro _
 refine AF (fun m E H => ∃ i : Nat, m = ps.length - i ∧ i ≤ ps.length ∧ ps.length + Dn (ps.take i) ≤ left ∧ H = [] ∧ E = [(0, .sl 1 1 (sls 1 ps)), (1, .v (.int .i64 (left - ps.length - Dn (ps.take i)))), (5, .v (.int .i64 i))]) ps.length ⟨0, by simp [Dn]; omega⟩ ?_
 rintro J hJ m E H ⟨i, rfl, hi, hle, rfl, rfl⟩
 by_cases h : i < ps.length
 case neg =>
  have : i = ps.length := by omega
  subst this
  rw [List.take_length] at hle ⊢
  have h2 : ¬ left < ps.length + Dn ps := by omega
  simp [GW, h2]
  omega
 have hs := QV h
 have hpl := hp _ (LG h)
 have one := LF (pti ps i) (left - ps.length - Dn (ps.take i)) (by omega) (by omega) hpl
 simp [GW, h]
 refine AA one ?_
 by_cases hx : left - ps.length - Dn (ps.take i) < (pti ps i).length
 ·have h2 : left < ps.length + Dn ps := by
   have := XF (ps := ps) (i := i + 1)
   omega
  simp [hx, h2]
 ·have h2 : ¬ (left - ps.length - Dn (ps.take i) - (pti ps i).length < 0) := by omega
  have e : left - ps.length - Dn (ps.take i) - (pti ps i).length = left - ps.length - Dn (ps.take (i + 1)) := by omega
  rw [e] at h2
  simp [hx, e, h2]
  exact ⟨by omega, _, by omega, hJ _ _ _ ⟨i + 1, rfl, h, by omega, rfl, rfl⟩⟩
theorem VP (ps : List (List Int)) (hb : ps.length < 2 ^ 40) (hp : ∀ p ∈ ps, p.length < 2 ^ 40) :
  SoundAt Tryz.prog OP [.sl 1 1 (sls 1 ps)] (.os 1 (oss ps)) [.bot] := by
 refine AE (md := md0) (ms := [false]) VM (by simp) ?_
 simp [OQ]
 refine ⟨by omega, ?_⟩
 refine AF (fun m E H => ∃ i : Nat, m = ps.length - i ∧ i ≤ ps.length ∧ H = [some (.arr 1 (oss (ps.take i ++ List.replicate (ps.length - i) [])))] ∧ E = [(0, .sl 1 1 (sls 1 ps)), (3, .ls 1 0 0 ps.length), (4, .v (.int .i64 i))]) ps.length ⟨0, by simp [jb]⟩ ?_
 rintro J hJ m E H ⟨i, rfl, hi, rfl, rfl⟩
 by_cases h : i < ps.length
 case neg =>
  have : i = ps.length := by omega
  subst this
  simp [GX]
 simp [GX, h]
 refine AA (LC (pti ps i) (hp _ (LG h))) ?_
 simp
 refine ⟨h, by omega, by omega, _, by omega, hJ _ _ _ ⟨i + 1, rfl, h, ?_, rfl⟩⟩
 rw [dC, dD, Wv ps [] [] i h]
@[simp] def bkA (W T : Int) (cs : List Bool) (ds ls : List Int) (ps : List (List Int)) : AV := .agg [.v (.int .i64 W), .v (.int .i64 T), .sl 1 1 (AC cs), .sl 1 1 (AB ds), .sl 1 1 (AB ls), .sl 1 1 (sls 1 ps)]
@[simp] def bkO (W T : Int) (cs : List Bool) (ds ls : List Int) (ps : List (List Int)) : AV := .agg [.v (.int .i64 W), .v (.int .i64 T), .os 1 (AC cs), .os 1 (AB ds), .os 1 (AB ls), .os 1 (oss ps)]
theorem QW (W T : Int) (cs : List Bool) (ds ls : List Int) (ps : List (List Int)) (hc : cs.length < 2 ^ 40) (hd : ds.length < 2 ^ 40) (hl : ls.length < 2 ^ 40) (hb : ps.length < 2 ^ 40) (hp : ∀ p ∈ ps, p.length < 2 ^ 40) :
  SoundAt Tryz.prog QQ [bkA W T cs ds ls ps] (bkO W T cs ds ls ps) [.bot] := by
 refine AE (md := md0) (ms := [false]) XC (by simp) ?_
 simp [QR]
 refine AA (Ty W T cs hc) ?_
 simp
 refine AA (LC ds hd) ?_
 simp
 refine AA (LC ls hl) ?_
 simp
 refine AA (VP ps hb hp) ?_
 simp
def VQ (left : Int) (n : Nat) : Int := if left < n then -1 else left - n
def UL (cs : List Bool) (ds ls : List Int) (ps : List (List Int)) : Nat := cs.length + ds.length + ls.length + (ps.length + Dn ps)
theorem Fc (W T : Int) (cs : List Bool) (ds ls : List Int) (ps : List (List Int)) (left : Int) (h0 : 0 ≤ left) (h1 : left < 2 ^ 60) (hc : cs.length ≤ 9223372036854775807) (hd : ds.length ≤ 9223372036854775807) (hl : ls.length ≤ 9223372036854775807) (hb : ps.length ≤ 9223372036854775807) (hp : ∀ p ∈ ps, p.length ≤ 9223372036854775807) :
  SoundAt Tryz.prog QO [bkA W T cs ds ls ps, .v (.int .i64 left)] (.v (.int .i64 (VQ left (UL cs ds ls ps)))) [.bot, .bot] := by
 refine AE (md := md0) (ms := [false, false]) XB (by simp) ?_
 unfold VQ UL
 simp [QP]
 refine AA (Tx W T cs left h0 h1 hc) ?_
 by_cases g1 : left < cs.length
 ·have e : left < cs.length + ds.length + ls.length + (ps.length + Dn ps) := by omega
  simp [g1, e]
 have n1 : ¬ left - cs.length < 0 := by omega
 simp [g1, n1]
 try intro _
 refine AA (LF ds (left - cs.length) (by omega) (by omega) hd) ?_
 by_cases g2 : left - cs.length < ds.length
 ·have e : left < cs.length + ds.length + ls.length + (ps.length + Dn ps) := by omega
  simp [g2, e]
 have n2 : ¬ left - cs.length - ds.length < 0 := by omega
 simp [g2, n2]
 try intro _
 refine AA (LF ls (left - cs.length - ds.length) (by omega) (by omega) hl) ?_
 by_cases g3 : left - cs.length - ds.length < ls.length
 ·have e : left < cs.length + ds.length + ls.length + (ps.length + Dn ps) := by omega
  simp [g3, e]
 have n3 : ¬ left - cs.length - ds.length - ls.length < 0 := by omega
 simp [g3, n3]
 try intro _
 refine AA (VO ps (left - cs.length - ds.length - ls.length) (by omega) (by omega) hb hp) ?_
 by_cases g4 : left - cs.length - ds.length - ls.length < ps.length + Dn ps
 ·have e : left < cs.length + ds.length + ls.length + (ps.length + Dn ps) := by omega
  simp [g4, e]
 have n4 : ¬ left - cs.length - ds.length - ls.length - (ps.length + Dn ps) < 0 := by omega
 have e : ¬ left < cs.length + ds.length + ls.length + (ps.length + Dn ps) := by omega
 simp [g4, n4, e]
 omega
theorem VR (ps qs : List (List Int)) (ha : ps.length < 2 ^ 40) (hp : ∀ p ∈ ps, p.length < 2 ^ 40) :
  SoundAt Tryz.prog OR [.sl 1 1 (sls 1 ps), .sl 1 1 (sls 1 qs)] (.v (.bool (decide (ps = qs)))) [.bot, .bot] := by
 refine AE (md := md0) (ms := [false, false]) VN (by simp) ?_
 simp [OS]
 refine ⟨fun h => ?_, fun hl => ?_⟩
 ·intro e; subst e; exact h rfl
 refine AF (fun m E H => ∃ i : Nat, m = ps.length - i ∧ i ≤ ps.length ∧ ps.take i = qs.take i ∧ H = [] ∧ E = [(0, .sl 1 1 (sls 1 ps)), (1, .sl 1 1 (sls 1 qs)), (5, .v (.int .i64 i))]) ps.length ⟨0, by simp⟩ ?_
 rintro J hJ m E H ⟨i, rfl, hi, he, rfl, rfl⟩
 by_cases h : i < ps.length
 case neg =>
  have h1 : i = ps.length := by omega
  subst h1
  have e : ps = qs := by
   rw [List.take_length] at he
   rw [he]; exact List.take_of_length_le (by omega)
  simp [GY, e]
 have h2 : i < qs.length := by omega
 simp [GY, h, h2]
 have one := LD (pti ps i) (pti qs i) (hp _ (LG h))
 have key : (pti ps i = pti qs i) → ps.take (i + 1) = qs.take (i + 1) := by
  intro e
  rw [List.take_succ_eq_append_getElem h, List.take_succ_eq_append_getElem h2, he, ← ED h, ← ED h2, e]
 have key2 : ¬ (pti ps i = pti qs i) → ¬ ps = qs := fun e e2 => e (by rw [e2])
 (repeat' first | assumption | omega | apply And.intro) <;>
 ·refine AA one ?_
  by_cases e : pti ps i = pti qs i
  ·simp [e]
   exact ⟨by omega, _, by omega, hJ _ _ _ ⟨i + 1, rfl, h, key e, rfl, rfl⟩⟩
  ·simp [e, key2 e]
theorem Hi (W T : Int) (cs : List Bool) (ds ls : List Int) (ps : List (List Int)) (hc : cs.length < 2 ^ 40) (hd : ds.length < 2 ^ 40) (hl : ls.length < 2 ^ 40) (hb : ps.length < 2 ^ 40) (hp : ∀ p ∈ ps, p.length < 2 ^ 40) :
  SoundAt Tryz.prog QS [bkA W T cs ds ls ps, bkA W T cs ds ls ps] (.v (.bool true)) [.bot, .bot] := by
 refine AE (md := md0) (ms := [false, false]) XD (by simp) ?_
 simp [QT]
 refine AA (T4 W T W T cs cs hc) ?_
 simp
 refine AA (LD ds ds hd) ?_
 simp
 refine AA (LD ls ls hl) ?_
 simp
 refine AA (VR ps ps hb hp) ?_
 simp
open Go.ChangeShapes Go.WideShapes Go.ChangeAt Go.RowKit
theorem YU (c : Nat) : ∀ ps : List (List Int), Ak (sls c ps) = sls c ps
 | [] => rfl
 | p :: ps => by show Ab _ ++ Ak (sls c ps) = _ :: sls c ps; rw [YU c ps]; rfl
theorem dE (c : Nat) (ps : List (List Int)) : Sized 1 (sls c ps) := by
 intro e he
 obtain ⟨n, _, rfl⟩ := List.mem_map.1 he
 rfl
theorem gu {C : Ctx} {α : Type} {f : α → AV} {g : α → Value} : ∀ L : List α, (∀ x ∈ L, R C (f x) [] (g x)) → RL C (L.map f) [] (L.map g)
 | [], _ => by show RL C [] [] []; rw [RL]; exact ⟨rfl, rfl⟩
 | x :: xs, h => by
   show RL C (f x :: xs.map f) [] (g x :: xs.map g)
   rw [RL]; exact ⟨[], [], _, _, rfl, rfl, h x (by simp), gu xs fun y hy => h y (by simp [hy])⟩
section
variable {H : Type} {enc : TypeId × Value → H} {P : Program} {W : World}
theorem WE : ∀ xs : List Int, Nt (AB xs) = true
 | [] => rfl
 | x :: xs => by show (Value.oneCell' (.int .i64 x) && Nt (AB xs)) = true; rw [WE xs]; rfl
theorem dF {xs : List Int} {v : Value} (h : R (cin W [] fun _ => False) (.sl 1 1 (AB xs)) [] v) : R ((cin W [] fun _ => False).at 1) (.sl 1 1 (AB xs)) [] v := by
 rw [R] at h ⊢
 obtain ⟨h0, a, cap, hu, hle, h⟩ := h
 refine ⟨h0, a, cap, hu, hle, ?_⟩
 rcases h with h | ⟨b, p, us, ha, hb, hbad, hcells, hs, hr⟩
 ·exact .inl h
 ·refine .inr ⟨b, p, us, ha, hb, fun hx => hbad (hx rfl), hcells, hs, ?_⟩
  rw [Hq] at hr ⊢
  exact (TB hr (WE xs)).2.1 _
theorem ZU {t e q : TypeId} {v : Value} {x : DataW H × List MemPlace} {fuel : Nat} (ht : P.underlying t = some (.slice e)) (he : P.underlying e = some (.slice q)) (hq : P.underlying q = some (.int .i64)) (ce : P.cellsOf e = 1) (cq : P.cellsOf q = 1)
  (hf : DataW.trod enc P W 0 (fun _ => true) true fuel t [v] = some x) :
  ∃ ps : List (List Int), ps.length ≤ maxLen ∧ (∀ p ∈ ps, p.length ≤ maxLen) ∧ R (cin W [] fun _ => False) (.sl 1 1 (sls 1 ps)) [] v := by
 rcases Go.Deep.open_slice1 ht ce hf with ⟨hcs, hx⟩ | ⟨a, len, cap, m, n, V, D, Pl, hcs, _, hl, hm, hmm, hx, hcell⟩
 ·simp at hcs
  subst hcs
  exact ⟨[], by simp, by simp, by rw [R]; exact ⟨rfl, none, 0, rfl, Nat.le_refl _, .inl rfl⟩⟩
 ·simp at hcs
  subst hcs
  simp only [if_true] at hmm
  have each : ∀ i, i < len → ∃ xs : List Int, xs.length ≤ maxLen ∧ R (cin W [] fun _ => False) (.sl 1 1 (AB xs)) [] (V i) := by
   intro i hi
   obtain ⟨xs, h1, _, h2⟩ := RK he hq cq (hcell i (by omega)).2
   exact ⟨xs, h1, h2⟩
  obtain ⟨X, hX⟩ := Go.Deep.choose_lt each
  refine ⟨(List.range len).map X, by simp; omega, ?_, ?_⟩
  ·intro p hp
   obtain ⟨i, hi, rfl⟩ := List.mem_map.1 hp
   exact (hX i (by simpa using hi)).1
  ·refine TF (xs := (List.range len).map V) hl (by simp) (by simp) ?_ (dE _ _) ?_
   ·intro i v hi
    rw [List.getElem?_map] at hi
    simp only [Option.map_eq_some_iff] at hi
    obtain ⟨k, hk, rfl⟩ := hi
    have hlt : i < len := by have := (List.getElem?_eq_some_iff.1 hk).1; simpa using this
    rw [List.getElem?_range hlt] at hk
    cases hk
    exact (hcell i (by omega)).1
   ·rw [YU]
    unfold sls
    rw [List.map_map]
    exact gu _ fun i hi => dF (hX i (by simpa using hi)).2
theorem mD {α : Type} {cs : Array α} (h : cs.size = 6) : ∃ c0 c1 c2 c3 c4 c5, cs = #[c0, c1, c2, c3, c4, c5] := by
 obtain ⟨l⟩ := cs
 match l, h with
 | [c0, c1, c2, c3, c4, c5], _ => exact ⟨c0, c1, c2, c3, c4, c5, rfl⟩
theorem YV {t tb ti tn : TypeId} {f0 f1 f2 f3 g0 g1 g2 : Field} {v : Value} {d : DataW H} {p : List MemPlace} {base : Nat} (hs : P.underlying t = some (.struct #[f0, f1, f2, f3])) (hC : P.cellsOf t = 6)
  (hg : P.underlying f0.type = some (.struct #[g0, g1, g2])) (c0 : P.cellsOf f0.type = 3) (c1 : P.cellsOf f1.type = 1) (c2 : P.cellsOf f2.type = 1) (c3 : P.cellsOf f3.type = 1)
  (o : f0.offset = 0 ∧ f1.offset = 3 ∧ f2.offset = 4 ∧ f3.offset = 5) (og : g0.offset = 0 ∧ g1.offset = 1 ∧ g2.offset = 2) (d0 : P.cellsOf g0.type = 1) (d1 : P.cellsOf g1.type = 1) (d2 : P.cellsOf g2.type = 1)
  (h0 : P.underlying g0.type = some (.int .i64)) (h1 : P.underlying g1.type = some (.int .i64)) (h2 : P.underlying g2.type = some (.slice tb)) (hb : P.underlying tb = some .bool) (hcb : P.cellsOf tb = 1)
  (h3 : P.underlying f1.type = some (.slice ti)) (h4 : P.underlying f2.type = some (.slice ti)) (hi : P.underlying ti = some (.int .i64)) (hci : P.cellsOf ti = 1)
  (h5 : P.underlying f3.type = some (.slice tn)) (h6 : P.underlying tn = some (.slice ti)) (hcn : P.cellsOf tn = 1)
  (hv : Value.okWide P W .any base t v) (h : DataW.Trod enc P W 0 (fun _ => true) true t v d p) :
  ∃ (a b : Int) (cs : List Bool) (ds ls : List Int) (ps : List (List Int)), cs.length ≤ maxLen ∧ ds.length ≤ maxLen ∧ ls.length ≤ maxLen ∧ ps.length ≤ maxLen ∧ (∀ p ∈ ps, p.length ≤ maxLen) ∧ R (cin W [] fun _ => False) (bkA a b cs ds ls ps) [] v := by
 obtain ⟨vs, rfl, hsz⟩ := okWide_struct hs hv
 obtain ⟨v0, v1, v2, v3, v4, v5, rfl⟩ := mD (hsz.trans hC)
 obtain ⟨fuel, hf⟩ := h
 obtain ⟨y0, y1, y2, y3, n, hx, _, t0, t1, t2, t3⟩ := Joins.trod_struct4 hs hf
 obtain ⟨o0, o1, o2, o3⟩ := o
 obtain ⟨q0, q1, q2⟩ := og
 have t0' : DataW.trod enc P W 0 (fun _ => true) true n f0.type [v0, v1, v2] = some y0 := by simpa [Value.cells, o0, c0] using t0
 have t1' : DataW.trod enc P W 0 (fun _ => true) true n f1.type [v3] = some y1 := by simpa [Value.cells, o1, c1] using t1
 have t2' : DataW.trod enc P W 0 (fun _ => true) true n f2.type [v4] = some y2 := by simpa [Value.cells, o2, c2] using t2
 have t3' : DataW.trod enc P W 0 (fun _ => true) true n f3.type [v5] = some y3 := by simpa [Value.cells, o3, c3] using t3
 obtain ⟨z0, z1, z2, k, hz, _, s0, s1, s2⟩ := Go.Deep.trod_struct3 hg t0'
 have s0' : DataW.trod enc P W 0 (fun _ => true) true k g0.type [v0] = some z0 := by simpa [q0, d0] using s0
 have s1' : DataW.trod enc P W 0 (fun _ => true) true k g1.type [v1] = some z1 := by simpa [q1, d1] using s1
 have s2' : DataW.trod enc P W 0 (fun _ => true) true k g2.type [v2] = some z2 := by simpa [q2, d2] using s2
 obtain ⟨a, ha, _, wa⟩ := DataW.trod_int h0 s0'
 obtain ⟨b, hb', _, wb⟩ := DataW.trod_int h1 s1'
 obtain ⟨cs, hl0, r0⟩ := ZB h2 hb hcb s2'
 obtain ⟨ds, hl1, _, r1⟩ := RK h3 hi hci t1'
 obtain ⟨ls, hl2, _, r2⟩ := RK h4 hi hci t2'
 obtain ⟨ps, hl3, hl4, r3⟩ := ZU h5 h6 hi hcn hci t3'
 simp at ha hb'
 subst ha; subst hb'
 refine ⟨a, b, cs, ds, ls, ps, hl0, hl1, hl2, hl3, hl4, ?_⟩
 unfold bkA
 rw [R]
 refine ⟨[_, _, v2, v3, v4, v5], rfl, ?_⟩
 rw [RL]; refine ⟨[], [], _, _, rfl, rfl, by rw [R]; exact ⟨rfl, rfl⟩, ?_⟩
 rw [RL]; refine ⟨[], [], _, _, rfl, rfl, by rw [R]; exact ⟨rfl, rfl⟩, ?_⟩
 rw [RL]; refine ⟨[], [], _, _, rfl, rfl, r0, ?_⟩
 rw [RL]; refine ⟨[], [], _, _, rfl, rfl, r1, ?_⟩
 rw [RL]; refine ⟨[], [], _, _, rfl, rfl, r2, ?_⟩
 rw [RL]; exact ⟨[], [], _, _, rfl, rfl, r3, by rw [RL]; exact ⟨rfl, rfl⟩⟩
end
end Go.Proofs.Dev
namespace Go.Proofs.YtfkmfobbgoflgaaGreatDoor
open Go.ChangeShapes Go.WideShapes Go.ChangeAt Go.RowKit Go.Proofs.Dev
theorem mE : Tryz.prog.cellsOf 53 = 6 := by kernel_rfl
theorem oV : Tryz.prog.cellsOf 51 = 3 := by kernel_rfl
theorem kV : Tryz.prog.cellsOf 3 = 1 := by kernel_rfl
theorem mF : Tryz.prog.cellsOf 4 = 1 := by kernel_rfl
theorem bN : Tryz.prog.cellsOf 35 = 1 := by kernel_rfl
theorem gv : Tryz.prog.cellsOf 36 = 1 := by kernel_rfl
theorem gw : Tryz.prog.cellsOf 32 = 1 := by kernel_rfl
theorem mG : Tryz.prog.readableRec 53 = true := by kernel_rfl
theorem oc : Tryz.prog.readableRec 9 = true := by kernel_rfl
theorem nt : Tryz.prog.readableRec 58 = true := by kernel_rfl
theorem RL.cons0 {C : Ctx} {a : AV} {bs : List AV} {u : Value} {us : List Value} (h : R C a [] u) (h' : RL C bs [] us) : RL C (a :: bs) [] (u :: us) := by
 rw [RL]; exact ⟨[], [], u, us, rfl, rfl, h, h'⟩
theorem RL.nil0 {C : Ctx} : RL C [] [] [] := by rw [RL]; exact ⟨rfl, rfl⟩
theorem fh {P : Program} {W : World} {H : Type} {enc : TypeId × Value → H} {t : TypeId} {v : Value} {d : DataW H} {p : List MemPlace} {base : Nat} (ht : P.underlying t = some .string)
  (hv : Value.okWide P W .any base t v) (h : DataW.Trod enc P W 0 (fun _ => true) true t v d p) :
  ∃ s : List UInt8, s.length ≤ 9223372036854775807 ∧ R (cin W [] fun _ => False) (.v (tx s)) [] v := by
 obtain ⟨s, rfl, _, _, hs⟩ := Go.ChangeMaps.open_string ht hv h
 refine ⟨s.data.toList, ?_, ?_⟩
 ·have : s.size = s.data.toList.length := Go.Lib.size_eq s
  have hm : maxLen ≤ 9223372036854775807 := by decide
  omega
 ·rw [R]
  refine ⟨rfl, ?_⟩
  show Value.string s = Value.string ⟨s.data.toList.toArray⟩
  rw [Go.Lib.mk_data]
theorem dG {P : Program} {W : World} {H : Type} {enc : TypeId × Value → H} {t e : TypeId} {v : Value} {d : DataW H} {p : List MemPlace} {base : Nat} (ht : P.underlying t = some (.slice e)) (he : P.underlying e = some .string) (hc : P.cellsOf e = 1) (hC : P.cellsOf t = 1)
  (hv : Value.okWide P W .any base t v) (h : DataW.Trod enc P W 0 (fun _ => true) true t v d p) :
  ∃ ls : List (List UInt8), ls.length ≤ 9223372036854775807 ∧ (∀ x ∈ ls, x.length ≤ 9223372036854775807) ∧ R (cin W [] fun _ => False) (.sl 1 1 (txs ls)) [] v := by
 obtain ⟨a0, len0, cap0, rfl⟩ := okWide_slice ht hv
 obtain ⟨fuel, hf⟩ := h
 have hmx : maxLen ≤ 9223372036854775807 := by decide
 rcases open_strings ht he hc hf with ⟨hcs, hx⟩ | ⟨a, len, cap, ss, hcs, _, hl, hm, hmm, hx, hcell, hsz⟩
 ·cases hcs
  exact ⟨[], by simp, by simp, by rw [R]; exact ⟨rfl, none, 0, rfl, Nat.le_refl _, .inl rfl⟩⟩
 ·cases hcs
  simp only [if_true] at hmm
  have hmk : ∀ s : ByteArray, tx s.data.toList = .string s := fun s => by show Value.string ⟨s.data.toList.toArray⟩ = _; rw [Go.Lib.mk_data]
  refine ⟨(ss.take len0).map fun s => s.data.toList, ?_, ?_, TF (xs := (ss.take len0).map fun s => .string s) hl (by simp; omega) (by simp; omega) ?_ (Td _) ?_⟩
  ·simp; omega
  ·intro x hx
   obtain ⟨s, hs, rfl⟩ := List.mem_map.1 hx
   have := hsz s (List.mem_of_mem_take hs)
   have : s.size = s.data.toList.length := Go.Lib.size_eq s
   omega
  ·intro i v hi
   simp only [List.getElem?_map, Option.map_eq_some_iff] at hi
   obtain ⟨s, hs, rfl⟩ := hi
   rw [List.getElem?_take] at hs
   split at hs
   ·rename_i hlt
    have := hcell i (by omega)
    rw [List.getD_eq_getElem?_getD, hs] at this
    simpa using this
   ·cases hs
  ·rw [MQ]
   have := aC ((cin W [] fun _ => False).at 1) ((ss.take len0).map fun s => s.data.toList)
   simpa [List.map_map, Function.comp_def, hmk] using this
end Go.Proofs.YtfkmfobbgoflgaaGreatDoor
namespace Go.Proofs.Dev
@[simp] abbrev J9 : Nat := 30
abbrev Bq : Plan := .al (.o 36 (.call 24 []) [.t 31, .t 35]) ( .take (.m 30 36) <| .take (.e 37 0 30) <| .take (.e 38 1 30) <| .al (.s (.store 6) [.t 9, .t 37]) ( .take (.m 10 38) <| .done))
abbrev HO : Plan := .alt (.o 36 (.call 24 []) [.t 31, .t 35]) ( .take (.m 30 36) <| .take (.e 37 0 30) <| .take (.e 38 1 30) <| .al (.o 9 (.alloc bz) []) ( .al (.s (.store 6) [.t 9, .t 37]) ( .take (.m 10 38) <| .done))) <| .al (.o 9 (.alloc bz) []) Bq
def GZ : ACode := .seq (.seq (.reg [.m 24 8, .m 25 1, .n 26 25, .o 27 (.bin .lss 0) [.t 24, .t 26]]) <| .cond (.t 27) ( .skip) ( .exit 0)) <| .seq (.block 1 ( .seq (.draw ( .take (.m 32 1) <| .take (.m 33 8) <| .take (.o 34 (.iadr 1) [.t 32, .t 33]) <| .alt (.la 31 6 7) ( .alt (.l 35 34) HO <| .al (.o 9 (.alloc bz) []) ( .al (.l 35 34) Bq)) <| .alt (.l 35 34) ( .alt (.la 31 6 7) HO <| .al (.o 9 (.alloc bz) []) ( .al (.la 31 6 7) Bq)) <| .al (.o 9 (.alloc bz) []) ( .alt (.la 31 6 7) ( .al (.l 35 34) Bq) <| .al (.l 35 34) ( .al (.la 31 6 7) Bq)))) <| .seq (.reg [.la 39 6 9, .s (.store 6) [.t 7, .t 39]]) <| .reg [.m 40 6, .m 41 10, .o 42 (.bsl 1) [.t 41], .o 43 (.app 1 16 true) [.t 40, .t 42], .m 6 43])) <| .reg [.m 28 8, .o 29 (.bin .add 0) [.t 28, .k 1], .m 8 29]
def Gm : ACode := .seq (.reg [.o 2 .box [.t 0], .o 4 (.alloc bz) [], .o 5 .mv [.c (.os 1 [])]]) <| .seq (.reg [.o 11 (.bsl 1) [], .m 6 11]) <| .seq (.seq (.reg [.la 12 6 2, .o 13 (.call 18 []) [.t 12], .o 14 (.un .not) [.t 13], .m 15 14, .mg 16 1 15 false, .g 17 (.len false) [.t 16] 15 false, .g 18 (.bin .gtr 0) [.t 17, .k 40] 15 false, .o 19 .pick [.t 15, .kb true, .t 18]]) <| .cond (.t 19) ( .seq (.reg [.o 20 (.build bz []) [], .m 21 6, .s (.store 6) [.t 4, .t 20], .m 5 21]) <| .ret) ( .skip)) <| .seq (.reg [.la 22 6 2, .o 23 (.call 72 []) [.t 22], .o 7 (.alloc bz) [], .s (.store 6) [.t 7, .t 23]]) <| .seq (.seq (.reg [.o 8 .mv [.k 0]]) <| .block 0 ( .loop [(1, 1), (6, 1)] [1, 4, 6, 7, 8] GZ)) <| .seq (.reg [.la 44 6 7, .m 45 6, .s (.store 6) [.t 4, .t 44], .m 5 45]) <| .ret
theorem VS : cFn Tryz.prog J9 46 [.c 4 true 6, .t 5] Gm := ⟨Tryz.f30, _, Tryz.func30, rfl, by kernel_rfl, by kernel_rfl, by kernel_rfl, by kernel_rfl⟩
@[simp] abbrev CC : Nat := 95
def EE : ACode := .seq (.reg [.o 2 .mv [.c (.os 1 [])]]) <| .seq (.reg [.m 3 0, .m 4 0, .n 5 4, .m 6 0, .n 7 6, .o 8 (.slice 1 false false true true) [.t 3, .t 5, .t 7], .m 2 8]) <| .ret
theorem IL : cFn Tryz.prog CC 9 [.t 2] EE := ⟨Tryz.f95, _, Tryz.func95, rfl, by kernel_rfl, by kernel_rfl, by kernel_rfl, by kernel_rfl⟩
@[simp] abbrev KA : Nat := 32
def Ga : ACode := .seq (.reg [.o 24 (.bin .lss 0) [.t 23, .t 22]]) <| .seq (.cond (.t 24) ( .skip) ( .exit 0)) <| .seq (.block 1 ( .seq (.reg [.o 25 (.iadr 1) [.t 21, .t 23], .l 26 25, .m 9 26]) <| .reg [.m 27 7, .m 28 9, .o 29 (.call 61 []) [.t 6, .t 28], .o 30 (.bsl 1) [.t 29], .o 31 (.app 1 16 true) [.t 27, .t 30], .m 7 31])) <| .reg [.o 32 (.bin .add 0) [.t 23, .k 1], .m 23 32]
abbrev Ke : Plan := .al (.s (.store 6) [.t 4, .t 33]) ( .take (.m 5 35) <| .done)
def Gn : ACode := .seq (.reg [.o 2 .box [.t 0], .o 4 (.alloc bz) [], .o 5 .mv [.c (.os 1 [])]]) <| .seq (.seq (.reg [.la 10 6 2, .o 11 (.call 38 []) [.t 10], .o 12 (.un .not) [.t 11], .m 13 12, .mg 14 1 13 false, .g 15 (.len false) [.t 14] 13 false, .g 16 (.bin .gtr 0) [.t 15, .k 40] 13 false, .o 17 .pick [.t 13, .kb true, .t 16]]) <| .cond (.t 17) ( .seq (.reg [.o 18 (.build bz []) [], .s (.store 6) [.t 4, .t 18], .o 5 .mv [.c (.os 1 [])]]) <| .ret) ( .skip)) <| .seq (.reg [.la 19 6 2, .o 20 (.call 60 []) [.t 19], .o 6 (.alloc bz) [], .s (.store 6) [.t 6, .t 20]]) <| .seq (.reg [.o 7 .mv [.c (.os 1 [])]]) <| .seq (.seq (.reg [.m 21 1, .n 22 21, .o 23 .mv [.k 0]]) <| .block 0 ( .loop [(7, 1), (21, 1)] [4, 6, 7, 21, 22, 23] Ga)) <| .seq (.draw ( .take (.m 34 7) <| .alt (.la 33 6 6) ( .al (.o 35 (.call 95 []) [.t 34]) Ke) <| .al (.o 35 (.call 95 []) [.t 34]) ( .al (.la 33 6 6) Ke))) <| .ret
theorem VT : cFn Tryz.prog KA 36 [.c 4 true 6, .t 5] Gn := ⟨Tryz.f32, _, Tryz.func32, rfl, by kernel_rfl, by kernel_rfl, by kernel_rfl, by kernel_rfl⟩
@[simp] abbrev Ah : Nat := 24
abbrev Be : Plan := .al (.o 56 (.call 73 []) [.t 51, .t 55]) ( .take (.m 50 56) <| .take (.e 57 0 50) <| .take (.e 58 1 50) <| .al (.s (.store 6) [.t 13, .t 57]) ( .take (.m 14 58) <| .done))
abbrev G2 : Plan := .alt (.o 56 (.call 73 []) [.t 51, .t 55]) ( .take (.m 50 56) <| .take (.e 57 0 50) <| .take (.e 58 1 50) <| .al (.o 13 (.alloc bz) []) ( .al (.s (.store 6) [.t 13, .t 57]) ( .take (.m 14 58) <| .done))) <| .al (.o 13 (.alloc bz) []) Be
def Dp : ACode := .seq (.seq (.reg [.m 44 12, .m 45 11, .n 46 45, .o 47 (.bin .lss 0) [.t 44, .t 46]]) <| .cond (.t 47) ( .skip) ( .exit 1)) <| .seq (.block 2 ( .seq (.draw ( .take (.m 52 11) <| .take (.m 53 12) <| .take (.o 54 (.iadr 3) [.t 52, .t 53]) <| .alt (.la 51 6 8) ( .alt (.la 55 3 54) G2 <| .al (.o 13 (.alloc bz) []) ( .al (.la 55 3 54) Be)) <| .alt (.la 55 3 54) ( .alt (.la 51 6 8) G2 <| .al (.o 13 (.alloc bz) []) ( .al (.la 51 6 8) Be)) <| .al (.o 13 (.alloc bz) []) ( .alt (.la 51 6 8) ( .al (.la 55 3 54) Be) <| .al (.la 55 3 54) ( .al (.la 51 6 8) Be)))) <| .reg [.la 59 6 13, .s (.store 6) [.t 8, .t 59]])) <| .reg [.m 48 12, .o 49 (.bin .add 0) [.t 48, .k 1], .m 12 49]
abbrev Ae : Plan := .al (.o 115 (.call 81 []) [.t 110, .t 112, .t 114]) ( .al (.o 116 (.call 74 []) [.t 115, .c (.v (.string ⟨#[121, 101, 115]⟩))]) ( .al (.s (.store 6) [.t 4, .t 108]) ( .take (.m 5 116) <| .done)))
abbrev Fd : Plan := .alt (.la 108 6 8) Ae <| .al (.o 115 (.call 81 []) [.t 110, .t 112, .t 114]) ( .alt (.la 108 6 8) ( .al (.o 116 (.call 74 []) [.t 115, .c (.v (.string ⟨#[121, 101, 115]⟩))]) ( .al (.s (.store 6) [.t 4, .t 108]) ( .take (.m 5 116) <| .done))) <| .al (.o 116 (.call 74 []) [.t 115, .c (.v (.string ⟨#[121, 101, 115]⟩))]) ( .al (.la 108 6 8) ( .al (.s (.store 6) [.t 4, .t 108]) ( .take (.m 5 116) <| .done))))
abbrev CV : Plan := .al (.o 73 (.call 76 []) [.t 70, .t 72]) ( .al (.s (.store 6) [.t 4, .t 68]) ( .take (.m 5 73) <| .done))
abbrev CW : Plan := .al (.o 82 (.call 77 []) [.t 79, .t 81]) ( .al (.s (.store 6) [.t 4, .t 77]) ( .take (.m 5 82) <| .done))
abbrev Fe : Plan := .al (.o 104 (.call 74 []) [.t 103, .c (.v (.string ⟨#[121, 101, 115]⟩))]) ( .al (.s (.store 6) [.t 4, .t 101]) ( .take (.m 5 104) <| .done))
abbrev Ff : Plan := .al (.o 89 (.call 78 []) [.t 88]) ( .al (.s (.store 6) [.t 4, .t 86]) ( .take (.m 5 89) <| .done))
abbrev Ji : Plan := .alt (.la 68 6 8) CV <| .al (.o 73 (.call 76 []) [.t 70, .t 72]) ( .al (.la 68 6 8) ( .al (.s (.store 6) [.t 4, .t 68]) ( .take (.m 5 73) <| .done)))
abbrev Jj : Plan := .alt (.la 77 6 8) CW <| .al (.o 82 (.call 77 []) [.t 79, .t 81]) ( .al (.la 77 6 8) ( .al (.s (.store 6) [.t 4, .t 77]) ( .take (.m 5 82) <| .done)))
abbrev Fg : Plan := .al (.s (.store 6) [.t 4, .t 93]) ( .take (.m 5 97) <| .done)
abbrev Jk : Plan := .alt (.la 110 3 109) ( .al (.l 114 113) Ae) <| .al (.l 114 113) ( .al (.la 110 3 109) Ae)
abbrev IM : Plan := .alt (.la 110 3 109) ( .al (.l 112 111) Ae) <| .al (.l 112 111) ( .al (.la 110 3 109) Ae)
abbrev IP : Plan := .alt (.l 112 111) ( .al (.l 114 113) Ae) <| .al (.l 114 113) ( .al (.l 112 111) Ae)
abbrev IQ : Plan := .alt (.la 108 6 8) ( .al (.la 110 3 109) Ae) <| .al (.la 110 3 109) Fd
abbrev IR : Plan := .alt (.la 108 6 8) ( .al (.l 114 113) Ae) <| .al (.l 114 113) Fd
abbrev IU : Plan := .alt (.la 108 6 8) ( .al (.l 112 111) Ae) <| .al (.l 112 111) Fd
abbrev IV : Plan := .al (.s (.store 6) [.t 4, .t 133]) ( .take (.m 5 137) <| .done)
abbrev IW : Plan := .al (.s (.store 6) [.t 4, .t 36]) ( .take (.m 5 38) <| .done)
def Ai : ACode := .seq (.reg [.o 2 .box [.t 0], .o 4 (.alloc bz) [], .o 5 .mv [.c (.v (.string ⟨#[]⟩))]]) <| .seq (.seq (.reg [.la 17 6 2, .o 18 (.call 18 []) [.t 17], .o 19 (.un .not) [.t 18]]) <| .cond (.t 19) ( .seq (.reg [.o 20 (.build bz []) [], .s (.store 6) [.t 4, .t 20], .o 5 .mv [.c (.v (.string ⟨#[]⟩))]]) <| .ret) ( .skip)) <| .seq (.reg [.m 22 1, .o 23 (.call 56 []) [.t 22], .m 21 23, .e 24 0 21, .e 25 1 21, .o 6 (.alloc dz) [], .s (.store 3) [.t 6, .t 24], .m 7 25]) <| .seq (.reg [.la 26 6 2, .o 27 (.call 72 []) [.t 26], .o 8 (.alloc bz) [], .s (.store 6) [.t 8, .t 27]]) <| .seq (.block 0 ( .seq (.reg [.m 29 7, .m 28 29]) <| .cond (.t 28) ( .seq (.reg [.la 31 6 2, .la 32 3 6, .o 33 (.call 73 []) [.t 31, .t 32], .m 30 33, .e 34 0 30, .e 35 1 30, .o 9 (.alloc bz) [], .s (.store 6) [.t 9, .t 34], .m 10 35]) <| .seq (.draw ( .take (.m 37 10) <| .alt (.la 36 6 9) ( .al (.o 38 (.call 74 []) [.t 37, .c (.v (.string ⟨#[111, 107]⟩))]) IW) <| .al (.o 38 (.call 74 []) [.t 37, .c (.v (.string ⟨#[111, 107]⟩))]) ( .al (.la 36 6 9) IW))) <| .ret) ( .seq (.reg [.m 40 1, .o 41 (.bin .eql 1) [.t 40, .c (.v (.string ⟨#[101, 110, 100]⟩))], .m 39 41]) <| .cond (.t 39) ( .seq (.reg [.la 42 6 2, .o 43 (.call 75 []) [.t 42], .m 11 43]) <| .seq (.seq (.reg [.o 12 .mv [.k 0]]) <| .block 1 ( .loop [(11, 3)] [4, 8, 11, 12] Dp)) <| .seq (.seq (.reg [.m 60 11, .n 61 60, .o 62 (.bin .eql 0) [.t 61, .k 0]]) <| .cond (.t 62) ( .seq (.reg [.la 63 6 8, .s (.store 6) [.t 4, .t 63], .o 5 .mv [.c (.v (.string ⟨#[110, 111, 110, 101]⟩))]]) <| .ret) ( .skip)) <| .seq (.reg [.la 64 6 8, .s (.store 6) [.t 4, .t 64], .o 5 .mv [.c (.v (.string ⟨#[111, 107]⟩))]]) <| .ret) ( .seq (.reg [.m 66 1, .o 67 (.bin .eql 1) [.t 66, .c (.v (.string ⟨#[115, 104, 111, 119]⟩))], .m 65 67]) <| .cond (.t 65) ( .seq (.draw ( .take (.f 69 0 2) <| .take (.f 71 4 2) <| .alt (.la 68 6 8) ( .alt (.la 70 3 69) ( .al (.l 72 71) CV) <| .al (.l 72 71) ( .al (.la 70 3 69) CV)) <| .alt (.la 70 3 69) ( .alt (.la 68 6 8) ( .al (.l 72 71) CV) <| .al (.l 72 71) Ji) <| .al (.l 72 71) ( .alt (.la 68 6 8) ( .al (.la 70 3 69) CV) <| .al (.la 70 3 69) Ji))) <| .ret) ( .seq (.reg [.m 75 1, .o 76 (.bin .eql 1) [.t 75, .c (.v (.string ⟨#[100, 105, 103, 105, 116, 115]⟩))], .m 74 76]) <| .cond (.t 74) ( .seq (.draw ( .take (.f 78 0 2) <| .take (.f 80 3 2) <| .alt (.la 77 6 8) ( .alt (.la 79 3 78) ( .al (.l 81 80) CW) <| .al (.l 81 80) ( .al (.la 79 3 78) CW)) <| .alt (.la 79 3 78) ( .alt (.la 77 6 8) ( .al (.l 81 80) CW) <| .al (.l 81 80) Jj) <| .al (.l 81 80) ( .alt (.la 77 6 8) ( .al (.la 79 3 78) CW) <| .al (.la 79 3 78) Jj))) <| .ret) ( .seq (.reg [.m 84 1, .o 85 (.bin .eql 1) [.t 84, .c (.v (.string ⟨#[108, 101, 102, 116]⟩))], .m 83 85]) <| .cond (.t 83) ( .seq (.draw ( .alt (.la 86 6 8) ( .al (.la 87 6 2) ( .al (.o 88 (.call 79 []) [.t 87]) Ff)) <| .al (.la 87 6 2) ( .alt (.la 86 6 8) ( .al (.o 88 (.call 79 []) [.t 87]) Ff) <| .al (.o 88 (.call 79 []) [.t 87]) ( .alt (.la 86 6 8) Ff <| .al (.o 89 (.call 78 []) [.t 88]) ( .al (.la 86 6 8) ( .al (.s (.store 6) [.t 4, .t 86]) ( .take (.m 5 89) <| .done))))))) <| .ret) ( .seq (.reg [.m 91 1, .o 92 (.bin .eql 1) [.t 91, .c (.v (.string ⟨#[112, 97, 115, 116]⟩))], .m 90 92]) <| .cond (.t 90) ( .seq (.draw ( .take (.f 94 5 2) <| .alt (.la 93 6 8) ( .al (.l 95 94) ( .take (.n 96 95) <| .al (.o 97 (.call 78 []) [.t 96]) Fg)) <| .al (.l 95 94) ( .take (.n 96 95) <| .alt (.la 93 6 8) ( .al (.o 97 (.call 78 []) [.t 96]) Fg) <| .al (.o 97 (.call 78 []) [.t 96]) ( .al (.la 93 6 8) Fg)))) <| .ret) ( .seq (.reg [.m 99 1, .o 100 (.bin .eql 1) [.t 99, .c (.v (.string ⟨#[115, 111, 108, 118, 101, 100]⟩))], .m 98 100]) <| .cond (.t 98) ( .seq (.draw ( .alt (.la 101 6 8) ( .al (.la 102 6 2) ( .al (.o 103 (.call 80 []) [.t 102]) Fe)) <| .al (.la 102 6 2) ( .alt (.la 101 6 8) ( .al (.o 103 (.call 80 []) [.t 102]) Fe) <| .al (.o 103 (.call 80 []) [.t 102]) ( .alt (.la 101 6 8) Fe <| .al (.o 104 (.call 74 []) [.t 103, .c (.v (.string ⟨#[121, 101, 115]⟩))]) ( .al (.la 101 6 8) ( .al (.s (.store 6) [.t 4, .t 101]) ( .take (.m 5 104) <| .done))))))) <| .ret) ( .seq (.reg [.m 106 1, .o 107 (.bin .eql 1) [.t 106, .c (.v (.string ⟨#[100, 101, 97, 100]⟩))], .m 105 107]) <| .cond (.t 105) ( .seq (.draw ( .take (.f 109 0 2) <| .take (.f 111 3 2) <| .take (.f 113 4 2) <| .alt (.la 108 6 8) ( .alt (.la 110 3 109) IP <| .alt (.l 112 111) Jk <| .al (.l 114 113) IM) <| .alt (.la 110 3 109) ( .alt (.la 108 6 8) IP <| .alt (.l 112 111) IR <| .al (.l 114 113) IU) <| .alt (.l 112 111) ( .alt (.la 108 6 8) Jk <| .alt (.la 110 3 109) IR <| .al (.l 114 113) IQ) <| .al (.l 114 113) ( .alt (.la 108 6 8) IM <| .alt (.la 110 3 109) IU <| .al (.l 112 111) IQ))) <| .ret) ( .seq (.reg [.m 118 1, .o 119 (.bin .eql 1) [.t 118, .c (.v (.string ⟨#[104, 105, 110, 116]⟩))], .m 117 119]) <| .cond (.t 117) ( .seq (.reg [.f 121 0 2, .la 122 3 121, .f 123 3 2, .l 124 123, .f 125 4 2, .l 126 125, .o 127 (.call 82 []) [.t 122, .t 124, .t 126], .m 120 127, .e 128 0 120, .e 129 1 120, .m 15 128, .m 16 129]) <| .seq (.seq (.reg [.m 130 15, .o 131 (.bin .lss 0) [.t 130, .k 0]]) <| .cond (.t 131) ( .seq (.reg [.la 132 6 8, .s (.store 6) [.t 4, .t 132], .o 5 .mv [.c (.v (.string ⟨#[110, 111, 110, 101]⟩))]]) <| .ret) ( .skip)) <| .seq (.draw ( .take (.m 134 15) <| .take (.m 135 16) <| .take (.o 136 (.build dz [(0, 1), (1, 1), (2, 1)]) [.k 0, .t 134, .t 135]) <| .alt (.la 133 6 8) ( .al (.o 137 (.call 48 []) [.t 136]) IV) <| .al (.o 137 (.call 48 []) [.t 136]) ( .al (.la 133 6 8) IV))) <| .ret) ( .skip))))))))))) <| .seq (.reg [.la 138 6 8, .s (.store 6) [.t 4, .t 138], .o 5 .mv [.c (.v (.string ⟨#[119, 104, 97, 116]⟩))]]) <| .ret
theorem Al : cFn Tryz.prog Ah 139 [.c 4 true 6, .t 5] Ai := ⟨Tryz.f24, _, Tryz.func24, rfl, by kernel_rfl, by kernel_rfl, by kernel_rfl, by kernel_rfl⟩
@[simp] abbrev E8 : Nat := 189
def IX : ACode := .seq (.reg [.o 2 .mv [.c (.os 1 [])]]) <| .seq (.seq (.reg [.m 3 0, .o 4 (.nilq false) [.t 3]]) <| .cond (.t 4) ( .seq (.reg [.o 2 .mv [.c (.os 1 [])]]) <| .ret) ( .skip)) <| .seq (.reg [.o 5 (.bsl 1) [], .m 6 0, .o 7 (.app 1 24 false) [.t 5, .t 6], .m 2 7]) <| .ret
@[simp] abbrev Kf : Nat := 135
def Kg : ACode := .seq (.reg [.o 2 .mv [.c (.os 1 [])]]) <| .seq (.reg [.m 3 0, .o 4 (.call 189 []) [.t 3], .o 5 (.call 188 []) [.t 4], .m 2 5]) <| .ret
@[simp] abbrev Fh : Nat := 136
abbrev AM : Plan := .al (.o 25 (.call 190 []) [.t 16, .t 20, .t 22, .t 24]) ( .take (.e 26 0 25) <| .take (.e 27 1 25) <| .take (.m 4 26) <| .take (.m 5 27) <| .done)
abbrev BB : Plan := .al (.o 37 (.call 191 []) [.t 30, .t 34, .t 36]) ( .take (.e 38 0 37) <| .take (.e 39 1 37) <| .take (.m 4 38) <| .take (.m 5 39) <| .done)
abbrev BC : Plan := .al (.o 49 (.call 192 []) [.t 42, .t 46, .t 48]) ( .take (.e 50 0 49) <| .take (.e 51 1 49) <| .take (.m 4 50) <| .take (.m 5 51) <| .done)
abbrev BD : Plan := .al (.o 63 (.call 193 []) [.t 54, .t 58, .t 62]) ( .take (.m 7 63) <| .done)
abbrev G3 : Plan := .alt (.la 16 3 6) ( .al (.l 24 23) AM) <| .al (.l 24 23) ( .al (.la 16 3 6) AM)
abbrev G4 : Plan := .alt (.la 16 3 6) ( .al (.l 22 21) AM) <| .al (.l 22 21) ( .al (.la 16 3 6) AM)
abbrev G5 : Plan := .alt (.la 16 3 6) ( .al (.l 20 19) AM) <| .al (.l 20 19) ( .al (.la 16 3 6) AM)
abbrev G6 : Plan := .alt (.l 22 21) ( .al (.l 24 23) AM) <| .al (.l 24 23) ( .al (.l 22 21) AM)
abbrev G7 : Plan := .alt (.l 20 19) ( .al (.l 24 23) AM) <| .al (.l 24 23) ( .al (.l 20 19) AM)
abbrev G8 : Plan := .alt (.l 20 19) ( .al (.l 22 21) AM) <| .al (.l 22 21) ( .al (.l 20 19) AM)
def BH : ACode := .seq (.reg [.o 3 .box [.t 1], .o 4 .mv [.c (.os 1 [])], .o 5 .mv [.kb false]]) <| .seq (.reg [.m 8 0, .o 9 .nilck [.t 8], .f 10 0 9, .la 11 3 10, .o 6 (.alloc rz) [], .s (.store 3) [.t 6, .t 11]]) <| .seq (.seq (.reg [.f 12 0 3, .l 13 12]) <| .block 0 ( .seq (.reg [.o 15 (.bin .eql 0) [.t 13, .k 0], .m 14 15]) <| .cond (.t 14) ( .seq (.draw ( .take (.m 17 0) <| .take (.o 18 .nilck [.t 17]) <| .take (.f 19 4 18) <| .take (.f 21 1 3) <| .take (.f 23 2 3) <| .alt (.la 16 3 6) ( .alt (.l 20 19) G6 <| .alt (.l 22 21) G7 <| .al (.l 24 23) G8) <| .alt (.l 20 19) ( .alt (.la 16 3 6) G6 <| .alt (.l 22 21) G3 <| .al (.l 24 23) G4) <| .alt (.l 22 21) ( .alt (.la 16 3 6) G7 <| .alt (.l 20 19) G3 <| .al (.l 24 23) G5) <| .al (.l 24 23) ( .alt (.la 16 3 6) G8 <| .alt (.l 20 19) G4 <| .al (.l 22 21) G5))) <| .ret) ( .seq (.reg [.o 29 (.bin .eql 0) [.t 13, .k 1], .m 28 29]) <| .cond (.t 28) ( .seq (.draw ( .take (.m 31 0) <| .take (.o 32 .nilck [.t 31]) <| .take (.f 33 4 32) <| .take (.f 35 1 3) <| .alt (.la 30 3 6) ( .alt (.l 34 33) ( .al (.l 36 35) BB) <| .al (.l 36 35) ( .al (.l 34 33) BB)) <| .alt (.l 34 33) ( .alt (.la 30 3 6) ( .al (.l 36 35) BB) <| .al (.l 36 35) ( .al (.la 30 3 6) BB)) <| .al (.l 36 35) ( .alt (.la 30 3 6) ( .al (.l 34 33) BB) <| .al (.l 34 33) ( .al (.la 30 3 6) BB)))) <| .ret) ( .seq (.reg [.o 41 (.bin .eql 0) [.t 13, .k 2], .m 40 41]) <| .cond (.t 40) ( .seq (.draw ( .take (.m 43 0) <| .take (.o 44 .nilck [.t 43]) <| .take (.f 45 4 44) <| .take (.f 47 1 3) <| .alt (.la 42 3 6) ( .alt (.l 46 45) ( .al (.l 48 47) BC) <| .al (.l 48 47) ( .al (.l 46 45) BC)) <| .alt (.l 46 45) ( .alt (.la 42 3 6) ( .al (.l 48 47) BC) <| .al (.l 48 47) ( .al (.la 42 3 6) BC)) <| .al (.l 48 47) ( .alt (.la 42 3 6) ( .al (.l 46 45) BC) <| .al (.l 46 45) ( .al (.la 42 3 6) BC)))) <| .ret) ( .seq (.reg [.o 53 (.bin .eql 0) [.t 13, .k 3], .m 52 53]) <| .cond (.t 52) ( .seq (.draw ( .take (.m 55 0) <| .take (.o 56 .nilck [.t 55]) <| .take (.f 57 3 56) <| .take (.m 59 0) <| .take (.o 60 .nilck [.t 59]) <| .take (.f 61 4 60) <| .alt (.la 54 3 6) ( .alt (.l 58 57) ( .al (.l 62 61) BD) <| .al (.l 62 61) ( .al (.l 58 57) BD)) <| .alt (.l 58 57) ( .alt (.la 54 3 6) ( .al (.l 62 61) BD) <| .al (.l 62 61) ( .al (.la 54 3 6) BD)) <| .al (.l 62 61) ( .alt (.la 54 3 6) ( .al (.l 58 57) BD) <| .al (.l 58 57) ( .al (.la 54 3 6) BD)))) <| .seq (.reg [.m 64 7, .m 65 7, .m 66 0, .o 67 .nilck [.t 66], .f 68 4 67, .l 69 68, .o 70 (.call 194 []) [.t 65, .t 69], .o 71 (.un .not) [.t 70], .m 4 64, .m 5 71]) <| .ret) ( .skip)))))) <| .seq (.reg [.o 4 .mv [.c (.os 1 [])], .o 5 .mv [.kb false]]) <| .ret
@[simp] abbrev B5 : Nat := 65
def Gb : ACode := .seq (.reg [.m 76 0, .m 77 0, .m 78 6, .m 79 8, .m 80 8, .n 81 80, .o 82 (.bin .sub 0) [.t 81, .k 20], .o 83 (.mnx false) [.k 0, .t 82], .o 84 (.slice 1 false true false false) [.t 79, .t 83], .o 85 (.call 135 []) [.t 84], .o 86 .nilck [.t 76], .f 87 4 86, .s (.store 1) [.t 87, .t 78], .o 88 .nilck [.t 77], .f 89 5 88, .s (.store 1) [.t 89, .t 85]]) <| .lg <| .seq (.reg [.o 4 .mv [.kb true]]) <| .ret
abbrev Cr : Plan := .al (.o 75 (.app 1 24 false) [.t 69, .t 74]) ( .take (.m 8 75) <| .done)
abbrev HP : Plan := .alt (.o 69 (.call 135 []) [.t 68]) ( .al (.o 74 (.bsl 1) [.t 73]) Cr) <| .al (.o 74 (.bsl 1) [.t 73]) ( .al (.o 69 (.call 135 []) [.t 68]) Cr)
def Gc : ACode := .seq (.draw ( .take (.m 65 0) <| .take (.o 66 .nilck [.t 65]) <| .take (.f 67 5 66) <| .take (.m 70 0) <| .take (.o 71 .nilck [.t 70]) <| .take (.f 72 4 71) <| .alt (.l 68 67) ( .alt (.o 69 (.call 135 []) [.t 68]) ( .al (.l 73 72) ( .al (.o 74 (.bsl 1) [.t 73]) Cr)) <| .al (.l 73 72) HP) <| .al (.l 73 72) ( .alt (.l 68 67) HP <| .al (.o 74 (.bsl 1) [.t 73]) ( .al (.l 68 67) ( .al (.o 69 (.call 135 []) [.t 68]) Cr))))) <| .lg Gb
abbrev HQ : Plan := .al (.g 62 (.call 137 []) [.t 56, .t 60, .t 61] 52 false) ( .take (.g 63 (.un .not) [.t 62] 52 false) <| .take (.o 64 .pick [.t 52, .kb true, .t 63]) <| .done)
def C1 : ACode := .seq (.reg [.m 45 0, .la 46 3 3, .o 47 (.call 136 []) [.t 45, .t 46], .m 44 47, .e 48 0 44, .e 49 1 44, .m 6 48, .m 7 49]) <| .seq (.seq (.draw ( .take (.m 50 7) <| .take (.o 51 (.un .not) [.t 50]) <| .take (.m 52 51) <| .take (.mg 53 0 52 false) <| .take (.g 54 .nilck [.t 53] 52 false) <| .take (.fg 55 0 54 52 false) <| .take (.mg 57 0 52 false) <| .take (.g 58 .nilck [.t 57] 52 false) <| .take (.fg 59 3 58 52 false) <| .take (.mg 61 6 52 false) <| .alt (.g 56 (.load true 3) [.t 55] 52 false) ( .al (.lg 60 59 52 false) HQ) <| .al (.lg 60 59 52 false) ( .al (.g 56 (.load true 3) [.t 55] 52 false) HQ))) <| .cond (.t 64) ( .seq (.reg [.o 4 .mv [.kb false]]) <| .ret) ( .skip)) <| .lg Gc
abbrev BQ : Plan := .take (.o 40 .nilck [.t 22]) <| .take (.f 41 4 40) <| .al (.s (.store 1) [.t 41, .t 31]) ( .take (.o 42 .nilck [.t 23]) <| .take (.f 43 5 42) <| .al (.s (.store 1) [.t 43, .t 39]) ( .done))
def Lk : ACode := .draw ( .take (.m 22 0) <| .take (.m 23 0) <| .take (.m 24 0) <| .take (.o 25 .nilck [.t 24]) <| .take (.f 26 5 25) <| .take (.m 28 5) <| .take (.o 29 (.bin .sub 0) [.t 28, .k 1]) <| .take (.m 32 0) <| .take (.o 33 .nilck [.t 32]) <| .take (.f 34 5 33) <| .take (.m 36 5) <| .take (.o 37 (.bin .sub 0) [.t 36, .k 1]) <| .alt (.l 27 26) ( .take (.o 30 (.iadr 1) [.t 27, .t 29]) <| .alt (.l 31 30) ( .al (.l 35 34) ( .take (.o 38 (.slice 1 false false true false) [.t 35, .t 37]) <| .al (.o 39 (.call 135 []) [.t 38]) BQ)) <| .al (.l 35 34) ( .take (.o 38 (.slice 1 false false true false) [.t 35, .t 37]) <| .alt (.l 31 30) ( .al (.o 39 (.call 135 []) [.t 38]) BQ) <| .al (.o 39 (.call 135 []) [.t 38]) ( .al (.l 31 30) BQ))) <| .al (.l 35 34) ( .take (.o 38 (.slice 1 false false true false) [.t 35, .t 37]) <| .alt (.l 27 26) ( .take (.o 30 (.iadr 1) [.t 27, .t 29]) <| .alt (.l 31 30) ( .al (.o 39 (.call 135 []) [.t 38]) BQ) <| .al (.o 39 (.call 135 []) [.t 38]) ( .al (.l 31 30) BQ)) <| .al (.o 39 (.call 135 []) [.t 38]) ( .al (.l 27 26) ( .take (.o 30 (.iadr 1) [.t 27, .t 29]) <| .al (.l 31 30) BQ))))
def BF : ACode := .seq (.reg [.o 3 .box [.t 1], .o 4 .mv [.kb false]]) <| .seq (.seq (.reg [.la 9 3 3, .o 10 (.call 62 []) [.t 9], .o 11 (.un .not) [.t 10]]) <| .cond (.t 11) ( .seq (.reg [.o 4 .mv [.kb false]]) <| .ret) ( .skip)) <| .seq (.seq (.reg [.m 12 0, .o 13 .nilck [.t 12], .f 14 5 13, .l 15 14, .n 16 15, .m 5 16]) <| .seq (.reg [.f 17 0 3, .l 18 17, .o 19 (.bin .eql 0) [.t 18, .k 4]]) <| .cond (.t 19) ( .seq (.seq (.reg [.m 20 5, .o 21 (.bin .eql 0) [.t 20, .k 0]]) <| .cond (.t 21) ( .seq (.reg [.o 4 .mv [.kb false]]) <| .ret) ( .skip)) <| .lg <| .seq (Lk) <| .lg <| .seq (.reg [.o 4 .mv [.kb true]]) <| .ret) ( .skip)) <| C1
@[simp] def Nv (kind spot way : Int) : AV := .agg [.v (.int .i64 kind), .v (.int .i64 spot), .v (.int .i64 way)]
attribute [simp] bj
def KL (us : List Value) : List AV := us.map AV.v
@[simp] theorem jc (us : List Value) : (KL us).length = us.length := by simp [KL]
theorem TI (ps : List (List Int)) : Xi (oss ps) := by
 intro e he
 obtain ⟨p, _, rfl⟩ := List.mem_map.1 he
 rfl
theorem UM (c : Nat) (us : List Value) : vwL c (KL us) = KL us := by
 induction us with
 | nil => rfl
 | cons u us ih => show vw c (.v u) :: vwL c (KL us) = .v u :: KL us; rw [ih]; rfl
@[simp] def mdo (f : Nat) : List Bool := if f = 65 then [true, false] else []
@[simp] def OT (W T : Int) (cs : List Bool) (ds ls : List Int) (ps : List (List Int)) : AV := .op [.v (.int .i64 W), .v (.int .i64 T), .os 1 (AC cs), .os 1 (AB ds), .os 1 (AB ls), .os 1 (oss ps)]
set_option maxHeartbeats 4000000 in
theorem VU (k : cFn Tryz.prog B5 90 [.t 4] BF) (W T : Int) (cs : List Bool) (ds ls q : List Int) (qs : List (List Int)) (spot way : Int)
  (hq : qs.length ≤ 100)
  (hneeds : SoundAt Tryz.prog 62 [Nv 4 spot way] (.v (.bool true)) [.bot])
  (hclone : ∀ us : List Value, us.length < 2 ^ 40 → (∀ u ∈ us, u.oneCell' = true) → SoundAt Tryz.prog 135 [.sl 1 1 (KL us)] (.os 1 (KL us)) [.bot]) :
  SoundAt Tryz.prog B5 [OT W T cs ds ls (qs ++ [q]), Nv 4 spot way] (.v (.bool true)) [OT W T cs ds q qs, .bot] := by
 refine AE (md := mdo) (ms := [true, false]) k (by simp) ?_
 simp [BF]
 refine AA hneeds ?_
 have e1 : ¬ ((qs.length : Int) + 1 = 0) := by omega
 simp [e1]
 refine Lg.takeAll 4 _ rfl (TI _) ?_
 intro us hus hok
 obtain ⟨vs, v, rfl⟩ : ∃ vs v, us = vs ++ [v] := by
  rcases List.eq_nil_or_concat us with rfl | ⟨vs, v, h⟩
  ·simp [oss] at hus
  ·exact ⟨vs, v, by rw [h, List.concat_eq_append]⟩
 have hvs : vs.length = qs.length := by simp [oss] at hus; exact hus
 have hv1 : v.oneCell' = true := hok (XE _) v (by simp)
 have hone : ∀ u ∈ vs, u.oneCell' = true := fun u hu => hok (XE _) u (by simp [hu])
 simp [PW]
 refine Lg.split 6 vs.length (vs ++ [v]) (oss (qs ++ [q])) rfl ?_
 have s1 : (vs ++ [v]).take vs.length = vs := by simp
 have s2 : (vs ++ [v]).drop vs.length = [v] := by simp
 have s3 : (oss (qs ++ [q])).take vs.length = oss qs := by rw [hvs]; simp [oss]
 have s4 : (oss (qs ++ [q])).drop vs.length = [.os 1 (AB q)] := by rw [hvs]; simp [oss]
 simp [Xz, s1, s2, s3, s4]
 refine Lg.done ?_
 have hget : (vs.map AV.v ++ [AV.v v])[qs.length]? = some (.v v) := by rw [← hvs]; simp
 have hw : (vs.map AV.v ++ [AV.v v]).take qs.length = KL vs := by rw [← hvs]; simp [KL]
 have clone := hclone vs (by omega) hone
 have hvl := hvs
 have htk : (KL vs).take vs.length = KL vs := List.take_of_length_le (by simp)
 have fin : ∀ E : ES, get E 0 = .lp 0 0 0 0 → get E 90 = .lp 0 0 0 0 → get E 91 = Nv 4 spot way →
   Lg (awp Tryz.prog mdo (.seq (.reg [⟨some 4, .mv, [.kb true], none⟩]) .ret) (X0 (awp Tryz.prog mdo C1 (Fin [RV.t 4] 90 2 [true, false] (.v (.bool true)) [OT W T cs ds q qs, .bot])) (Fin [RV.t 4] 90 2 [true, false] (.v (.bool true)) [OT W T cs ds q qs, .bot]))) E
    [some (.box [.v (.int .i64 W), .v (.int .i64 T), .ls 1 1 0 cs.length, .ls 1 2 0 ds.length, .v v, .ls 1 8 0 qs.length]),
     some (.arr 1 (AC cs)), some (.arr 1 (AB ds)), some (.arr 1 (AB ls)), some (.arr 1 (vs.map AV.v ++ [AV.v v])),
     some (.box [.v (.int .i64 4), .v (.int .i64 spot), .v (.int .i64 way)]), some (.pool vs (oss qs)), some (.pool [v] [.os 1 (AB q)]), some (.arr 1 (KL vs))] := by
  intro E e0 e90 e91
  refine Lg.unpool 7 1 0 4 v (AB q) _ rfl rfl rfl ?_
  simp [RI]
  refine Lg.implode 8 6 vs [] [] (oss qs) (by simp [KL]) rfl (by omega) (by intro e he; cases he) (by intro e he; cases he) (TI qs) ?_
  simp [PX]
  refine Lg.done ?_
  have hts : (oss qs).take qs.length = oss qs := List.take_of_length_le (by simp [oss])
  have htq : (AB q).take q.length = AB q := AD q
  simp [B6, e0, e90, e91, hvs, hts, htq]
 simp [Lk, hget]
 (repeat' first | omega | apply And.intro) <;>
 ·refine AA clone ?_
  simp [hw, UM, hvs, htk]
  first
  | exact ⟨hv1, fin _ rfl rfl rfl⟩
  | exact ⟨by omega, hv1, fin _ rfl rfl rfl⟩
  | exact ⟨by omega, by omega, hv1, fin _ rfl rfl rfl⟩
end Go.Proofs.Dev
