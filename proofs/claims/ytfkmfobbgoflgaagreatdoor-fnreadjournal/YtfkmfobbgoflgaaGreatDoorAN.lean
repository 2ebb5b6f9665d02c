/- Contracts of the functions of the program over slots and rows, each proved against the program itself; no condition beyond those that each theorem names. -/
import Derived.Test.YtfkmfobbgoflgaaGreatDoorAM
import Derived.Test.YtfkmfobbgoflgaaGreatDoorProg
import Derived.Test.YtfkmfobbgoflgaaGreatDoorAH
import Derived.Test.YtfkmfobbgoflgaaGreatDoorAK
import Derived.SliceStrings
import Derived.Test.YtfkmfobbgoflgaaGreatDoorAI
set_option linter.unusedSimpArgs false
set_option linter.unusedVariables false
set_option maxRecDepth 100000
namespace Go.Proofs.Dev
@[simp] abbrev HR : Nat := 18
abbrev AR : Plan := .al (.o 20 (.call 59 []) [.t 12, .t 14, .t 19]) ( .take (.o 21 (.un .not) [.t 20]) <| .done)
abbrev GG : Plan := .al (.l 16 15) ( .take (.o 18 (.iadr 1) [.t 16, .t 17]) <| .al (.l 19 18) AR)
def E6 : ACode := .seq (.seq (.reg [.m 4 3, .f 5 5 1, .l 6 5, .n 7 6, .o 8 (.bin .lss 0) [.t 4, .t 7]]) <| .cond (.t 8) ( .skip) ( .exit 0)) <| .seq (.block 1 ( .seq (.draw ( .take (.f 11 0 1) <| .take (.f 13 3 1) <| .take (.f 15 5 1) <| .take (.m 17 3) <| .alt (.la 12 3 11) ( .alt (.l 14 13) GG <| .al (.l 16 15) ( .take (.o 18 (.iadr 1) [.t 16, .t 17]) <| .alt (.l 14 13) ( .al (.l 19 18) AR) <| .al (.l 19 18) ( .al (.l 14 13) AR))) <| .alt (.l 14 13) ( .alt (.la 12 3 11) GG <| .al (.l 16 15) ( .take (.o 18 (.iadr 1) [.t 16, .t 17]) <| .alt (.la 12 3 11) ( .al (.l 19 18) AR) <| .al (.l 19 18) ( .al (.la 12 3 11) AR))) <| .al (.l 16 15) ( .take (.o 18 (.iadr 1) [.t 16, .t 17]) <| .alt (.la 12 3 11) ( .alt (.l 14 13) ( .al (.l 19 18) AR) <| .al (.l 19 18) ( .al (.l 14 13) AR)) <| .alt (.l 14 13) ( .alt (.la 12 3 11) ( .al (.l 19 18) AR) <| .al (.l 19 18) ( .al (.la 12 3 11) AR)) <| .al (.l 19 18) ( .alt (.la 12 3 11) ( .al (.l 14 13) AR) <| .al (.l 14 13) ( .al (.la 12 3 11) AR))))) <| .cond (.t 21) ( .seq (.reg [.o 2 .mv [.kb false]]) <| .ret) ( .skip))) <| .reg [.m 9 3, .o 10 (.bin .add 0) [.t 9, .k 1], .m 3 10]
def Ll : ACode := .seq (.reg [.o 1 .box [.t 0], .o 2 .mv [.kb false]]) <| .seq (.seq (.reg [.o 3 .mv [.k 0]]) <| .block 0 ( .loop [] [1, 3] E6)) <| .seq (.reg [.f 22 0 1, .la 23 3 22, .f 24 3 1, .l 25 24, .f 26 4 1, .l 27 26, .o 28 (.call 59 []) [.t 23, .t 25, .t 27], .m 29 28, .fg 30 5 1 29 true, .lg 31 30 29 true, .g 32 (.len false) [.t 31] 29 true, .g 33 (.bin .leq 0) [.t 32, .k 20] 29 true, .o 34 .pick [.t 29, .t 33, .kb false], .m 2 34]) <| .ret
theorem SI : cFn Tryz.prog HR 35 [.t 2] Ll := ⟨Tryz.f18, _, Tryz.func18, rfl, by kernel_rfl, by kernel_rfl, by kernel_rfl, by kernel_rfl⟩
@[simp] abbrev Jd : Nat := 100
def Je : ACode := .seq (.reg [.o 3 .mv [.kb false]]) <| .seq (.reg [.f 4 0 1, .la 5 3 4, .f 6 3 1, .l 7 6, .m 8 0, .o 9 (.call 98 []) [.t 5, .t 7, .t 8], .o 10 (.un .not) [.t 9], .m 3 10]) <| .ret
theorem QF : cFn Tryz.prog Jd 11 [.t 3] Je := ⟨Tryz.f100, _, Tryz.func100, rfl, by kernel_rfl, by kernel_rfl, by kernel_rfl, by kernel_rfl⟩
@[simp] abbrev EZ : Nat := 155
def Bl : ACode := .seq (.reg [.o 9 (.bin .lss 0) [.t 8, .t 7]]) <| .seq (.cond (.t 9) ( .skip) ( .exit 0)) <| .seq (.block 1 ( .seq (.reg [.m 10 8, .m 5 10]) <| .seq (.reg [.m 11 1, .m 12 0, .m 13 5, .o 14 (.iadr 1) [.t 12, .t 13], .l 15 14, .o 16 (.callv []) [.t 11, .t 15]]) <| .cond (.t 16) ( .seq (.reg [.m 17 5, .m 4 17]) <| .ret) ( .skip))) <| .reg [.o 18 (.bin .add 0) [.t 8, .k 1], .m 8 18]
def Ea : ACode := .seq (.reg [.o 4 .mv [.k 0]]) <| .seq (.seq (.reg [.m 6 0, .n 7 6, .o 8 .mv [.k 0]]) <| .block 0 ( .loop [(0, 1)] [0, 1, 7, 8] Bl)) <| .seq (.reg [.o 4 .mv [.k (-1)]]) <| .ret
theorem JA : cFn Tryz.prog EZ 19 [.t 4] Ea := ⟨Tryz.f155, _, Tryz.func155, rfl, by kernel_rfl, by kernel_rfl, by kernel_rfl, by kernel_rfl⟩
@[simp] abbrev DP : Nat := 99
def DQ : ACode := .seq (.reg [.o 4 .mv [.kb false]]) <| .seq (.reg [.m 5 0, .m 6 1, .o 7 (.call 155 []) [.t 5, .t 6], .o 8 (.bin .geq 0) [.t 7, .k 0], .m 4 8]) <| .ret
theorem HS : cFn Tryz.prog DP 9 [.t 4] DQ := ⟨Tryz.f99, _, Tryz.func99, rfl, by kernel_rfl, by kernel_rfl, by kernel_rfl, by kernel_rfl⟩
@[simp] abbrev Lm : Nat := 38
def Ln : ACode := .seq (.reg [.o 1 .box [.t 0], .o 2 .mv [.kb false]]) <| .seq (.reg [.f 3 0 1, .la 4 3 3, .f 5 3 1, .l 6 5, .f 7 4 1, .l 8 7, .o 9 (.call 98 []) [.t 4, .t 6, .t 8], .m 10 9, .fg 11 5 1 10 true, .lg 12 11 10 true, .g 13 (.len false) [.t 12] 10 true, .g 14 (.bin .leq 0) [.t 13, .k 20] 10 true, .o 15 .pick [.t 10, .t 14, .kb false], .m 16 15, .fg 17 5 1 16 true, .lg 18 17 16 true, .g 19 (.mkfn 100) [.t 1] 16 true, .g 20 (.call 99 []) [.t 18, .t 19] 16 true, .g 21 (.un .not) [.t 20] 16 true, .o 22 .pick [.t 16, .t 21, .kb false], .m 2 22]) <| .ret
theorem SJ : cFn Tryz.prog Lm 23 [.t 2] Ln := ⟨Tryz.f38, _, Tryz.func38, rfl, by kernel_rfl, by kernel_rfl, by kernel_rfl, by kernel_rfl⟩
def sls (c : Nat) (ps : List (List Int)) : List AV := ps.map fun p => .sl c 1 (AC p)
def oss (ps : List (List Int)) : List AV := ps.map fun p => .os 1 (AC p)
def pti (ps : List (List Int)) (i : Int) : List Int := ps.getD i.toNat []
@[simp] theorem lu (c : Nat) (ps : List (List Int)) : (sls c ps).length = ps.length := by simp [sls]
@[simp] theorem lv (ps : List (List Int)) : (oss ps).length = ps.length := by simp [oss]
@[simp] theorem pE (c : Nat) : sls c [] = [] := (rfl)
@[simp] theorem kI : oss [] = [] := (rfl)
@[simp] theorem lx (c : Nat) (ps : List (List Int)) : (sls c ps = []) = (ps = []) := by cases ps <;> simp [sls]
@[simp] theorem ly (ps : List (List Int)) : (oss ps = []) = (ps = []) := by cases ps <;> simp [oss]
theorem Nq (a b : List (List Int)) : oss (a ++ b) = oss a ++ oss b := by simp [oss]
theorem Wy (a : List Int) : oss [a] = [.os 1 (AC a)] := (rfl)
@[simp] theorem iv {c d : Nat} {k : IntKind} {ps : List (List Int)} {i : Int} : DN 1 (.sl c 1 (sls d ps)) (.v (.int k i)) = if 0 ≤ i ∧ i < ps.length then some (.vp c [.sl d 1 (AC (pti ps i))] 0) else none := by
  by_cases h : 0 ≤ i ∧ i < ps.length
  ·rw [if_pos h]
   have h1 : i.toNat < ps.length := by omega
   simp [DN, h.1, sls, pti, h1]
  ·rw [if_neg h]
   by_cases h0 : 0 ≤ i
   ·have : ¬ i.toNat < ps.length := by omega
    simp [DN, h0, sls, this]
   ·simp [DN, h0]
@[simp] theorem kJ (c d : Nat) : ∀ ps : List (List Int), vwL c (sls d ps) = sls c ps
  | [] => rfl
  | p :: ps => by
    show vw c (.sl d 1 (AC p)) :: vwL c (sls d ps) = .sl c 1 (AC p) :: sls c ps
    rw [kJ c d ps]; simp
@[simp] theorem kK (c : Nat) : ∀ ps : List (List Int), vwL c (oss ps) = sls c ps
  | [] => rfl
  | p :: ps => by
    show vw c (.os 1 (AC p)) :: vwL c (oss ps) = .sl c 1 (AC p) :: sls c ps
    rw [kK c ps]; simp
@[simp] theorem kL (c : Nat) : ∀ ps : List (List Int), okL (sls c ps) = true
  | [] => rfl
  | p :: ps => by show (okE (.sl c 1 (AC p)) && okL (sls c ps)) = true; rw [kL c ps]; simp
@[simp] theorem Wz : ∀ ps : List (List Int), okL (oss ps) = true
  | [] => rfl
  | p :: ps => by show (okE (.os 1 (AC p)) && okL (oss ps)) = true; rw [Wz ps]; simp
theorem gT (n : Nat) (ps : List (List Int)) : (oss ps).take n = oss (ps.take n) := by simp [oss]
@[simp] theorem iw (ps : List (List Int)) : (oss ps).take ps.length = oss ps := by rw [gT, List.take_length]
theorem Mx {ps : List (List Int)} {i : Nat} (h : i < ps.length) : pti ps i = ps[i] := by
 unfold pti; rw [Int.toNat_natCast, List.getD_eq_getElem?_getD, List.getElem?_eq_getElem h]; rfl
theorem ZF {ps : List (List Int)} {i : Nat} (h : i < ps.length) : pti ps i ∈ ps := by rw [Mx h]; exact List.getElem_mem h
@[simp] def bkA (W T : Int) (cs : List Bool) (ds ls : List Int) (ps : List (List Int)) : AV := .agg [.v (.int .i64 W), .v (.int .i64 T), .sl 1 1 (AD cs), .sl 1 1 (AC ds), .sl 1 1 (AC ls), .sl 1 1 (sls 1 ps)]
@[simp] def bkO (W T : Int) (cs : List Bool) (ds ls : List Int) (ps : List (List Int)) : AV := .agg [.v (.int .i64 W), .v (.int .i64 T), .os 1 (AD cs), .os 1 (AC ds), .os 1 (AC ls), .os 1 (oss ps)]
open Go.ChangeShapes Go.WideShapes Go.ChangeAt Go.RowKit
section
variable {H : Type} {enc : TypeId × Value → H} {P : Program} {W : World}
end
end Go.Proofs.Dev
namespace Go.Proofs.YtfkmfobbgoflgaaGreatDoor
open Go.ChangeShapes Go.WideShapes Go.ChangeAt Go.RowKit Go.Proofs.Dev
theorem RL.cons0 {C : Ctx} {a : AV} {bs : List AV} {u : Value} {us : List Value} (h : R C a [] u) (h' : RL C bs [] us) : RL C (a :: bs) [] (u :: us) := by
 rw [RL]; exact ⟨[], [], u, us, rfl, rfl, h, h'⟩
theorem RL.nil0 {C : Ctx} : RL C [] [] [] := by rw [RL]; exact ⟨rfl, rfl⟩
theorem dN {P : Program} {f : Nat} {bs cs : List Int} (h : SoundAt P f [.sl 0 1 (u8s bs), .sl 0 1 (u8s cs)] (.v (.bool true)) [.bot, .bot]) : SoundAt P f [.sl 1 1 (u8s bs), .sl 1 1 (u8s cs)] (.v (.bool true)) [.bot, .bot] := by
 refine SoundAt.lift (n := 2) (fun C S us hr => noOL_ok _ S us rfl hr) rfl ?_
 have e : vwL 0 [AV.sl 1 1 (u8s bs), AV.sl 1 1 (u8s cs)] = [AV.sl 0 1 (u8s bs), AV.sl 0 1 (u8s cs)] := by simp [vwL, vw]
 rw [e]
 exact h
end Go.Proofs.YtfkmfobbgoflgaaGreatDoor
namespace Go.Proofs.Dev
@[simp] abbrev Hd : Nat := 4
def C7 : ACode := .seq (.seq (.reg [.m 50 10, .m 51 5, .o 52 (.len true) [.t 51], .o 53 (.bin .leq 0) [.t 50, .t 52]]) <| .cond (.t 53) ( .skip) ( .exit 0)) <| .seq (.block 1 ( .seq (.reg [.m 57 5, .m 58 10, .o 59 (.sslice false true) [.t 57, .t 58], .o 60 (.call 13 []) [.t 59], .m 56 60, .e 61 0 56, .e 62 1 56, .m 11 61, .m 12 62]) <| .seq (.reg [.m 63 11, .n 64 63, .m 65 6, .n 66 65, .o 67 (.bin .gtr 0) [.t 64, .t 66], .m 68 67, .mg 69 11 68 false, .mg 70 6 68 false, .mg 71 11 68 false, .g 72 (.len false) [.t 71] 68 false, .mg 73 6 68 false, .g 74 (.len false) [.t 73] 68 false, .g 75 (.mnx true) [.t 72, .t 74] 68 false, .g 76 (.slice 3 false false true false) [.t 70, .t 75] 68 false, .g 77 (.call 14 []) [.t 69, .t 76] 68 false, .g 78 (.un .not) [.t 77] 68 false, .o 79 .pick [.t 68, .kb true, .t 78], .m 80 79, .mg 81 12 80 false, .mg 82 10 80 false, .g 83 (.bin .gtr 0) [.t 81, .t 82] 80 false, .o 84 .pick [.t 80, .kb true, .t 83]]) <| .cond (.t 84) ( .seq (.reg [.o 4 .mv [.kb false]]) <| .ret) ( .skip))) <| .reg [.m 54 10, .o 55 (.bin .add 0) [.t 54, .k 1], .m 10 55]
abbrev BK : Plan := .al (.o 108 (.call 19 []) [.t 102, .t 107]) ( .take (.m 101 108) <| .take (.e 109 0 101) <| .take (.e 110 1 101) <| .al (.s (.store 6) [.t 17, .t 109]) ( .take (.m 18 110) <| .done))
abbrev Eb : Plan := .alt (.o 108 (.call 19 []) [.t 102, .t 107]) ( .take (.m 101 108) <| .take (.e 109 0 101) <| .take (.e 110 1 101) <| .al (.o 17 (.alloc bz) []) ( .al (.s (.store 6) [.t 17, .t 109]) ( .take (.m 18 110) <| .done))) <| .al (.o 17 (.alloc bz) []) BK
abbrev BL : Plan := .al (.o 107 (.call 20 []) [.t 106]) BK
abbrev Ec : Plan := .alt (.la 102 6 15) BL <| .al (.o 107 (.call 20 []) [.t 106]) ( .al (.la 102 6 15) BK)
abbrev Ed : Plan := .alt (.o 107 (.call 20 []) [.t 106]) Eb <| .al (.o 17 (.alloc bz) []) BL
def Ai : ACode := .seq (.seq (.reg [.m 91 16, .m 92 6, .n 93 92, .o 94 (.bin .lss 0) [.t 91, .t 93], .m 95 94, .g 96 (.load true 6) [.t 13] 95 true, .g 97 (.call 18 []) [.t 96] 95 true, .o 98 .pick [.t 95, .t 97, .kb false]]) <| .cond (.t 98) ( .skip) ( .exit 2)) <| .seq (.block 3 ( .seq (.draw ( .take (.m 103 6) <| .take (.m 104 16) <| .take (.o 105 (.iadr 3) [.t 103, .t 104]) <| .alt (.la 102 6 15) ( .alt (.la 106 3 105) Ed <| .al (.o 17 (.alloc bz) []) ( .al (.la 106 3 105) BL)) <| .alt (.la 106 3 105) ( .alt (.la 102 6 15) Ed <| .alt (.o 107 (.call 20 []) [.t 106]) ( .alt (.la 102 6 15) Eb <| .al (.o 17 (.alloc bz) []) ( .al (.la 102 6 15) BK)) <| .al (.o 17 (.alloc bz) []) Ec) <| .al (.o 17 (.alloc bz) []) ( .alt (.la 102 6 15) ( .al (.la 106 3 105) BL) <| .al (.la 106 3 105) Ec))) <| .seq (.seq (.reg [.m 111 18, .o 112 (.bin .neq 1) [.t 111, .c (.v (.string ⟨#[111, 107]⟩))], .m 113 112, .mg 114 18 113 true, .g 115 (.bin .neq 1) [.t 114, .c (.v (.string ⟨#[110, 111]⟩))] 113 true, .o 116 .pick [.t 113, .t 115, .kb false]]) <| .cond (.t 116) ( .seq (.reg [.o 4 .mv [.kb false]]) <| .ret) ( .skip)) <| .reg [.la 117 6 17, .s (.store 6) [.t 15, .t 117]])) <| .reg [.m 99 16, .o 100 (.bin .add 0) [.t 99, .k 1], .m 16 100]
abbrev Fe : Plan := .al (.g 148 (.call 22 []) [.t 146, .t 147] 145 false) ( .take (.g 149 .pick [.t 145, .kb true, .t 148] 136 true) <| .take (.o 150 .pick [.t 136, .t 149, .kb false]) <| .take (.m 151 150) <| .al (.g 152 (.call 12 []) [] 151 true) ( .take (.o 153 .pick [.t 151, .t 152, .kb false]) <| .take (.m 4 153) <| .done))
def Ce : ACode := .seq (.reg [.o 4 .mv [.kb false]]) <| .seq (.seq (.reg [.m 21 0, .n 22 21, .o 23 (.bin .gtr 0) [.t 22, .k 1048576], .m 24 23, .mg 25 1 24 false, .g 26 (.len false) [.t 25] 24 false, .g 27 (.bin .gtr 0) [.t 26, .k 1048576] 24 false, .o 28 .pick [.t 24, .kb true, .t 27]]) <| .cond (.t 28) ( .seq (.reg [.o 4 .mv [.kb true]]) <| .ret) ( .skip)) <| .seq (.reg [.m 29 0, .o 30 (.call 15 []) [.t 29], .m 5 30]) <| .seq (.reg [.m 32 5, .o 33 (.call 13 []) [.t 32], .m 31 33, .e 34 0 31, .e 35 1 31, .m 6 34, .m 7 35]) <| .seq (.reg [.m 37 5, .o 38 (.call 16 []) [.t 37], .m 36 38, .e 39 0 36, .e 40 1 36, .m 8 39, .m 9 40]) <| .seq (.seq (.reg [.m 41 6, .m 42 8, .o 43 (.call 14 []) [.t 41, .t 42], .o 44 (.un .not) [.t 43], .m 45 44, .mg 46 7 45 false, .mg 47 9 45 false, .g 48 (.bin .neq 0) [.t 46, .t 47] 45 false, .o 49 .pick [.t 45, .kb true, .t 48]]) <| .cond (.t 49) ( .seq (.reg [.o 4 .mv [.kb false]]) <| .ret) ( .skip)) <| .seq (.seq (.reg [.o 10 .mv [.k 0]]) <| .block 0 ( .loop [(1, 1), (6, 3)] [1, 5, 6, 7, 10] C7)) <| .seq (.reg [.m 86 1, .o 87 (.call 17 []) [.t 86], .m 85 87, .e 88 0 85, .e 89 1 85, .o 13 (.alloc bz) [], .s (.store 6) [.t 13, .t 88], .m 14 89]) <| .seq (.reg [.la 90 6 13, .o 15 (.alloc bz) [], .s (.store 6) [.t 15, .t 90]]) <| .seq (.seq (.reg [.o 16 .mv [.k 0]]) <| .block 2 ( .loop [(6, 3)] [5, 6, 7, 13, 15, 16] Ai)) <| .seq (.reg [.la 119 6 13, .m 120 6, .o 121 (.call 21 []) [.t 119, .t 120], .m 118 121, .e 122 0 118, .e 123 1 118, .o 19 (.alloc bz) [], .s (.store 6) [.t 19, .t 122], .m 20 123]) <| .seq (.draw ( .take (.m 124 7) <| .take (.m 125 5) <| .take (.o 126 (.len true) [.t 125]) <| .take (.o 127 (.bin .leq 0) [.t 124, .t 126]) <| .take (.m 128 127) <| .take (.mg 129 6 128 true) <| .take (.mg 131 5 128 true) <| .take (.mg 132 7 128 true) <| .take (.g 133 (.sslice false true) [.t 131, .t 132] 128 true) <| .al (.g 130 (.call 10 []) [.t 129] 128 true) ( .take (.g 134 (.bin .eql 1) [.t 130, .t 133] 128 true) <| .take (.o 135 .pick [.t 128, .t 134, .kb false]) <| .take (.m 136 135) <| .al (.g 137 (.load true 6) [.t 13] 136 true) ( .al (.g 138 (.call 18 []) [.t 137] 136 true) ( .take (.g 139 (.un .not) [.t 138] 136 true) <| .take (.mg 140 139 136 true) <| .take (.mg 141 6 140 false) <| .take (.g 142 (.len false) [.t 141] 140 false) <| .take (.g 143 (.bin .gtr 0) [.t 142, .k 40] 140 false) <| .take (.g 144 .pick [.t 140, .kb true, .t 143] 136 true) <| .take (.mg 145 144 136 true) <| .alt (.g 146 (.load true 6) [.t 15] 145 false) ( .al (.g 147 (.load true 6) [.t 19] 145 false) Fe) <| .al (.g 147 (.load true 6) [.t 19] 145 false) ( .al (.g 146 (.load true 6) [.t 15] 145 false) Fe)))))) <| .ret
theorem Ny : cFn Tryz.prog Hd 154 [.t 4] Ce := ⟨Tryz.f4, _, Tryz.func4, rfl, by kernel_rfl, by kernel_rfl, by kernel_rfl, by kernel_rfl⟩
@[simp] abbrev E7 : Nat := 189
def IW : ACode := .seq (.reg [.o 2 .mv [.c (.os 1 [])]]) <| .seq (.seq (.reg [.m 3 0, .o 4 (.nilq false) [.t 3]]) <| .cond (.t 4) ( .seq (.reg [.o 2 .mv [.c (.os 1 [])]]) <| .ret) ( .skip)) <| .seq (.reg [.o 5 (.bsl 1) [], .m 6 0, .o 7 (.app 1 24 false) [.t 5, .t 6], .m 2 7]) <| .ret
@[simp] abbrev Kg : Nat := 135
def Kh : ACode := .seq (.reg [.o 2 .mv [.c (.os 1 [])]]) <| .seq (.reg [.m 3 0, .o 4 (.call 189 []) [.t 3], .o 5 (.call 188 []) [.t 4], .m 2 5]) <| .ret
@[simp] abbrev Ff : Nat := 136
abbrev AP : Plan := .al (.o 25 (.call 190 []) [.t 16, .t 20, .t 22, .t 24]) ( .take (.e 26 0 25) <| .take (.e 27 1 25) <| .take (.m 4 26) <| .take (.m 5 27) <| .done)
abbrev BA : Plan := .al (.o 37 (.call 191 []) [.t 30, .t 34, .t 36]) ( .take (.e 38 0 37) <| .take (.e 39 1 37) <| .take (.m 4 38) <| .take (.m 5 39) <| .done)
abbrev BB : Plan := .al (.o 49 (.call 192 []) [.t 42, .t 46, .t 48]) ( .take (.e 50 0 49) <| .take (.e 51 1 49) <| .take (.m 4 50) <| .take (.m 5 51) <| .done)
abbrev BC : Plan := .al (.o 63 (.call 193 []) [.t 54, .t 58, .t 62]) ( .take (.m 7 63) <| .done)
abbrev G7 : Plan := .alt (.la 16 3 6) ( .al (.l 24 23) AP) <| .al (.l 24 23) ( .al (.la 16 3 6) AP)
abbrev G8 : Plan := .alt (.la 16 3 6) ( .al (.l 22 21) AP) <| .al (.l 22 21) ( .al (.la 16 3 6) AP)
abbrev G9 : Plan := .alt (.la 16 3 6) ( .al (.l 20 19) AP) <| .al (.l 20 19) ( .al (.la 16 3 6) AP)
abbrev HA : Plan := .alt (.l 22 21) ( .al (.l 24 23) AP) <| .al (.l 24 23) ( .al (.l 22 21) AP)
abbrev HE : Plan := .alt (.l 20 19) ( .al (.l 24 23) AP) <| .al (.l 24 23) ( .al (.l 20 19) AP)
abbrev HF : Plan := .alt (.l 20 19) ( .al (.l 22 21) AP) <| .al (.l 22 21) ( .al (.l 20 19) AP)
def BF : ACode := .seq (.reg [.o 3 .box [.t 1], .o 4 .mv [.c (.os 1 [])], .o 5 .mv [.kb false]]) <| .seq (.reg [.m 8 0, .o 9 .nilck [.t 8], .f 10 0 9, .la 11 3 10, .o 6 (.alloc rz) [], .s (.store 3) [.t 6, .t 11]]) <| .seq (.seq (.reg [.f 12 0 3, .l 13 12]) <| .block 0 ( .seq (.reg [.o 15 (.bin .eql 0) [.t 13, .k 0], .m 14 15]) <| .cond (.t 14) ( .seq (.draw ( .take (.m 17 0) <| .take (.o 18 .nilck [.t 17]) <| .take (.f 19 4 18) <| .take (.f 21 1 3) <| .take (.f 23 2 3) <| .alt (.la 16 3 6) ( .alt (.l 20 19) HA <| .alt (.l 22 21) HE <| .al (.l 24 23) HF) <| .alt (.l 20 19) ( .alt (.la 16 3 6) HA <| .alt (.l 22 21) G7 <| .al (.l 24 23) G8) <| .alt (.l 22 21) ( .alt (.la 16 3 6) HE <| .alt (.l 20 19) G7 <| .al (.l 24 23) G9) <| .al (.l 24 23) ( .alt (.la 16 3 6) HF <| .alt (.l 20 19) G8 <| .al (.l 22 21) G9))) <| .ret) ( .seq (.reg [.o 29 (.bin .eql 0) [.t 13, .k 1], .m 28 29]) <| .cond (.t 28) ( .seq (.draw ( .take (.m 31 0) <| .take (.o 32 .nilck [.t 31]) <| .take (.f 33 4 32) <| .take (.f 35 1 3) <| .alt (.la 30 3 6) ( .alt (.l 34 33) ( .al (.l 36 35) BA) <| .al (.l 36 35) ( .al (.l 34 33) BA)) <| .alt (.l 34 33) ( .alt (.la 30 3 6) ( .al (.l 36 35) BA) <| .al (.l 36 35) ( .al (.la 30 3 6) BA)) <| .al (.l 36 35) ( .alt (.la 30 3 6) ( .al (.l 34 33) BA) <| .al (.l 34 33) ( .al (.la 30 3 6) BA)))) <| .ret) ( .seq (.reg [.o 41 (.bin .eql 0) [.t 13, .k 2], .m 40 41]) <| .cond (.t 40) ( .seq (.draw ( .take (.m 43 0) <| .take (.o 44 .nilck [.t 43]) <| .take (.f 45 4 44) <| .take (.f 47 1 3) <| .alt (.la 42 3 6) ( .alt (.l 46 45) ( .al (.l 48 47) BB) <| .al (.l 48 47) ( .al (.l 46 45) BB)) <| .alt (.l 46 45) ( .alt (.la 42 3 6) ( .al (.l 48 47) BB) <| .al (.l 48 47) ( .al (.la 42 3 6) BB)) <| .al (.l 48 47) ( .alt (.la 42 3 6) ( .al (.l 46 45) BB) <| .al (.l 46 45) ( .al (.la 42 3 6) BB)))) <| .ret) ( .seq (.reg [.o 53 (.bin .eql 0) [.t 13, .k 3], .m 52 53]) <| .cond (.t 52) ( .seq (.draw ( .take (.m 55 0) <| .take (.o 56 .nilck [.t 55]) <| .take (.f 57 3 56) <| .take (.m 59 0) <| .take (.o 60 .nilck [.t 59]) <| .take (.f 61 4 60) <| .alt (.la 54 3 6) ( .alt (.l 58 57) ( .al (.l 62 61) BC) <| .al (.l 62 61) ( .al (.l 58 57) BC)) <| .alt (.l 58 57) ( .alt (.la 54 3 6) ( .al (.l 62 61) BC) <| .al (.l 62 61) ( .al (.la 54 3 6) BC)) <| .al (.l 62 61) ( .alt (.la 54 3 6) ( .al (.l 58 57) BC) <| .al (.l 58 57) ( .al (.la 54 3 6) BC)))) <| .seq (.reg [.m 64 7, .m 65 7, .m 66 0, .o 67 .nilck [.t 66], .f 68 4 67, .l 69 68, .o 70 (.call 194 []) [.t 65, .t 69], .o 71 (.un .not) [.t 70], .m 4 64, .m 5 71]) <| .ret) ( .skip)))))) <| .seq (.reg [.o 4 .mv [.c (.os 1 [])], .o 5 .mv [.kb false]]) <| .ret
@[simp] abbrev BT : Nat := 65
def Gd : ACode := .seq (.reg [.m 76 0, .m 77 0, .m 78 6, .m 79 8, .m 80 8, .n 81 80, .o 82 (.bin .sub 0) [.t 81, .k 20], .o 83 (.mnx false) [.k 0, .t 82], .o 84 (.slice 1 false true false false) [.t 79, .t 83], .o 85 (.call 135 []) [.t 84], .o 86 .nilck [.t 76], .f 87 4 86, .s (.store 1) [.t 87, .t 78], .o 88 .nilck [.t 77], .f 89 5 88, .s (.store 1) [.t 89, .t 85]]) <| .lg <| .seq (.reg [.o 4 .mv [.kb true]]) <| .ret
abbrev Cf : Plan := .al (.o 75 (.app 1 24 false) [.t 69, .t 74]) ( .take (.m 8 75) <| .done)
abbrev He : Plan := .alt (.o 69 (.call 135 []) [.t 68]) ( .al (.o 74 (.bsl 1) [.t 73]) Cf) <| .al (.o 74 (.bsl 1) [.t 73]) ( .al (.o 69 (.call 135 []) [.t 68]) Cf)
def Ge : ACode := .seq (.draw ( .take (.m 65 0) <| .take (.o 66 .nilck [.t 65]) <| .take (.f 67 5 66) <| .take (.m 70 0) <| .take (.o 71 .nilck [.t 70]) <| .take (.f 72 4 71) <| .alt (.l 68 67) ( .alt (.o 69 (.call 135 []) [.t 68]) ( .al (.l 73 72) ( .al (.o 74 (.bsl 1) [.t 73]) Cf)) <| .al (.l 73 72) He) <| .al (.l 73 72) ( .alt (.l 68 67) He <| .al (.o 74 (.bsl 1) [.t 73]) ( .al (.l 68 67) ( .al (.o 69 (.call 135 []) [.t 68]) Cf))))) <| .lg Gd
abbrev Hf : Plan := .al (.g 62 (.call 137 []) [.t 56, .t 60, .t 61] 52 false) ( .take (.g 63 (.un .not) [.t 62] 52 false) <| .take (.o 64 .pick [.t 52, .kb true, .t 63]) <| .done)
def Cs : ACode := .seq (.reg [.m 45 0, .la 46 3 3, .o 47 (.call 136 []) [.t 45, .t 46], .m 44 47, .e 48 0 44, .e 49 1 44, .m 6 48, .m 7 49]) <| .seq (.seq (.draw ( .take (.m 50 7) <| .take (.o 51 (.un .not) [.t 50]) <| .take (.m 52 51) <| .take (.mg 53 0 52 false) <| .take (.g 54 .nilck [.t 53] 52 false) <| .take (.fg 55 0 54 52 false) <| .take (.mg 57 0 52 false) <| .take (.g 58 .nilck [.t 57] 52 false) <| .take (.fg 59 3 58 52 false) <| .take (.mg 61 6 52 false) <| .alt (.g 56 (.load true 3) [.t 55] 52 false) ( .al (.lg 60 59 52 false) Hf) <| .al (.lg 60 59 52 false) ( .al (.g 56 (.load true 3) [.t 55] 52 false) Hf))) <| .cond (.t 64) ( .seq (.reg [.o 4 .mv [.kb false]]) <| .ret) ( .skip)) <| .lg Ge
abbrev BM : Plan := .take (.o 40 .nilck [.t 22]) <| .take (.f 41 4 40) <| .al (.s (.store 1) [.t 41, .t 31]) ( .take (.o 42 .nilck [.t 23]) <| .take (.f 43 5 42) <| .al (.s (.store 1) [.t 43, .t 39]) ( .done))
def Lo : ACode := .draw ( .take (.m 22 0) <| .take (.m 23 0) <| .take (.m 24 0) <| .take (.o 25 .nilck [.t 24]) <| .take (.f 26 5 25) <| .take (.m 28 5) <| .take (.o 29 (.bin .sub 0) [.t 28, .k 1]) <| .take (.m 32 0) <| .take (.o 33 .nilck [.t 32]) <| .take (.f 34 5 33) <| .take (.m 36 5) <| .take (.o 37 (.bin .sub 0) [.t 36, .k 1]) <| .alt (.l 27 26) ( .take (.o 30 (.iadr 1) [.t 27, .t 29]) <| .alt (.l 31 30) ( .al (.l 35 34) ( .take (.o 38 (.slice 1 false false true false) [.t 35, .t 37]) <| .al (.o 39 (.call 135 []) [.t 38]) BM)) <| .al (.l 35 34) ( .take (.o 38 (.slice 1 false false true false) [.t 35, .t 37]) <| .alt (.l 31 30) ( .al (.o 39 (.call 135 []) [.t 38]) BM) <| .al (.o 39 (.call 135 []) [.t 38]) ( .al (.l 31 30) BM))) <| .al (.l 35 34) ( .take (.o 38 (.slice 1 false false true false) [.t 35, .t 37]) <| .alt (.l 27 26) ( .take (.o 30 (.iadr 1) [.t 27, .t 29]) <| .alt (.l 31 30) ( .al (.o 39 (.call 135 []) [.t 38]) BM) <| .al (.o 39 (.call 135 []) [.t 38]) ( .al (.l 31 30) BM)) <| .al (.o 39 (.call 135 []) [.t 38]) ( .al (.l 27 26) ( .take (.o 30 (.iadr 1) [.t 27, .t 29]) <| .al (.l 31 30) BM))))
def BE : ACode := .seq (.reg [.o 3 .box [.t 1], .o 4 .mv [.kb false]]) <| .seq (.seq (.reg [.la 9 3 3, .o 10 (.call 62 []) [.t 9], .o 11 (.un .not) [.t 10]]) <| .cond (.t 11) ( .seq (.reg [.o 4 .mv [.kb false]]) <| .ret) ( .skip)) <| .seq (.seq (.reg [.m 12 0, .o 13 .nilck [.t 12], .f 14 5 13, .l 15 14, .n 16 15, .m 5 16]) <| .seq (.reg [.f 17 0 3, .l 18 17, .o 19 (.bin .eql 0) [.t 18, .k 4]]) <| .cond (.t 19) ( .seq (.seq (.reg [.m 20 5, .o 21 (.bin .eql 0) [.t 20, .k 0]]) <| .cond (.t 21) ( .seq (.reg [.o 4 .mv [.kb false]]) <| .ret) ( .skip)) <| .lg <| .seq (Lo) <| .lg <| .seq (.reg [.o 4 .mv [.kb true]]) <| .ret) ( .skip)) <| Cs
@[simp] abbrev Gu : Nat := 21
def Gf : ACode := .seq (.reg [.o 24 (.bin .lss 0) [.t 23, .t 22]]) <| .seq (.cond (.t 24) ( .skip) ( .exit 0)) <| .seq (.block 1 ( .seq (.reg [.o 25 (.iadr 3) [.t 21, .t 23], .la 26 3 25, .o 9 (.alloc dz) [], .s (.store 3) [.t 9, .t 26]]) <| .seq (.reg [.la 27 3 9, .o 28 (.call 65 []) [.t 6, .t 27]]) <| .cond (.t 28) ( .reg [.m 29 7, .o 30 (.bin .add 0) [.t 29, .k 1], .m 7 30]) ( .skip))) <| .reg [.o 31 (.bin .add 0) [.t 23, .k 1], .m 23 31]
def Es : ACode := .seq (.reg [.o 2 .box [.t 0], .o 4 (.alloc bz) [], .o 5 .mv [.k 0]]) <| .seq (.seq (.reg [.la 10 6 2, .o 11 (.call 38 []) [.t 10], .o 12 (.un .not) [.t 11], .m 13 12, .mg 14 1 13 false, .g 15 (.len false) [.t 14] 13 false, .g 16 (.bin .gtr 0) [.t 15, .k 40] 13 false, .o 17 .pick [.t 13, .kb true, .t 16]]) <| .cond (.t 17) ( .seq (.reg [.o 18 (.build bz []) [], .s (.store 6) [.t 4, .t 18], .o 5 .mv [.k 0]]) <| .ret) ( .skip)) <| .seq (.reg [.la 19 6 2, .o 20 (.call 60 []) [.t 19], .o 6 (.alloc bz) [], .s (.store 6) [.t 6, .t 20]]) <| .seq (.reg [.o 7 .mv [.k 0]]) <| .seq (.seq (.reg [.m 21 1, .n 22 21, .o 23 .mv [.k 0]]) <| .block 0 ( .loop [(21, 3)] [4, 6, 7, 21, 22, 23] Gf)) <| .seq (.reg [.la 32 6 6, .m 33 7, .s (.store 6) [.t 4, .t 32], .m 5 33]) <| .ret
@[simp] def LK (kind spot way : Int) : AV := .agg [.v (.int .i64 kind), .v (.int .i64 spot), .v (.int .i64 way)]
attribute [simp] bp
def KS (us : List Value) : List AV := us.map AV.v
@[simp] theorem kM (us : List Value) : (KS us).length = us.length := by simp [KS]
theorem Sy (ps : List (List Int)) : XR (oss ps) := by
 intro e he
 obtain ⟨p, _, rfl⟩ := List.mem_map.1 he
 rfl
theorem Tt (c : Nat) (us : List Value) : vwL c (KS us) = KS us := by
 induction us with
 | nil => rfl
 | cons u us ih => show vw c (.v u) :: vwL c (KS us) = .v u :: KS us; rw [ih]; rfl
@[simp] def mdo (f : Nat) : List Bool := if f = 65 then [true, false] else []
@[simp] def Nr (W T : Int) (cs : List Bool) (ds ls : List Int) (ps : List (List Int)) : AV := .op [.v (.int .i64 W), .v (.int .i64 T), .os 1 (AD cs), .os 1 (AC ds), .os 1 (AC ls), .os 1 (oss ps)]
set_option maxHeartbeats 4000000 in
theorem U4 (k : cFn Tryz.prog BT 90 [.t 4] BE) (W T : Int) (cs : List Bool) (ds ls q : List Int) (qs : List (List Int)) (spot way : Int)
  (hq : qs.length ≤ 100)
  (hneeds : SoundAt Tryz.prog 62 [LK 4 spot way] (.v (.bool true)) [.bot])
  (hclone : ∀ us : List Value, us.length < 2 ^ 40 → (∀ u ∈ us, u.oneCell' = true) → SoundAt Tryz.prog 135 [.sl 1 1 (KS us)] (.os 1 (KS us)) [.bot]) :
  SoundAt Tryz.prog BT [Nr W T cs ds ls (qs ++ [q]), LK 4 spot way] (.v (.bool true)) [Nr W T cs ds q qs, .bot] := by
 refine AJ (md := mdo) (ms := [true, false]) k (by simp) ?_
 simp [BE]
 refine AA hneeds ?_
 have e1 : ¬ ((qs.length : Int) + 1 = 0) := by omega
 simp [e1]
 refine Lg.takeAll 4 _ rfl (Sy _) ?_
 intro us hus hok
 obtain ⟨vs, v, rfl⟩ : ∃ vs v, us = vs ++ [v] := by
  rcases List.eq_nil_or_concat us with rfl | ⟨vs, v, h⟩
  ·simp [oss] at hus
  ·exact ⟨vs, v, by rw [h, List.concat_eq_append]⟩
 have hvs : vs.length = qs.length := by simp [oss] at hus; exact hus
 have hv1 : v.oneCell' = true := hok (Wz _) v (by simp)
 have hone : ∀ u ∈ vs, u.oneCell' = true := fun u hu => hok (Wz _) u (by simp [hu])
 simp [PS]
 refine Lg.split 6 vs.length (vs ++ [v]) (oss (qs ++ [q])) rfl ?_
 have s1 : (vs ++ [v]).take vs.length = vs := by simp
 have s2 : (vs ++ [v]).drop vs.length = [v] := by simp
 have s3 : (oss (qs ++ [q])).take vs.length = oss qs := by rw [hvs]; simp [oss]
 have s4 : (oss (qs ++ [q])).drop vs.length = [.os 1 (AC q)] := by rw [hvs]; simp [oss]
 simp [Xk, s1, s2, s3, s4]
 refine Lg.done ?_
 have hget : (vs.map AV.v ++ [AV.v v])[qs.length]? = some (.v v) := by rw [← hvs]; simp
 have hw : (vs.map AV.v ++ [AV.v v]).take qs.length = KS vs := by rw [← hvs]; simp [KS]
 have clone := hclone vs (by omega) hone
 have hvl := hvs
 have htk : (KS vs).take vs.length = KS vs := List.take_of_length_le (by simp)
 have fin : ∀ E : ES, get E 0 = .lp 0 0 0 0 → get E 90 = .lp 0 0 0 0 → get E 91 = LK 4 spot way →
   Lg (awp Tryz.prog mdo (.seq (.reg [⟨some 4, .mv, [.kb true], none⟩]) .ret) (WS (awp Tryz.prog mdo Cs (Fin [RV.t 4] 90 2 [true, false] (.v (.bool true)) [Nr W T cs ds q qs, .bot])) (Fin [RV.t 4] 90 2 [true, false] (.v (.bool true)) [Nr W T cs ds q qs, .bot]))) E
    [some (.box [.v (.int .i64 W), .v (.int .i64 T), .ls 1 1 0 cs.length, .ls 1 2 0 ds.length, .v v, .ls 1 8 0 qs.length]),
     some (.arr 1 (AD cs)), some (.arr 1 (AC ds)), some (.arr 1 (AC ls)), some (.arr 1 (vs.map AV.v ++ [AV.v v])),
     some (.box [.v (.int .i64 4), .v (.int .i64 spot), .v (.int .i64 way)]), some (.pool vs (oss qs)), some (.pool [v] [.os 1 (AC q)]), some (.arr 1 (KS vs))] := by
  intro E e0 e90 e91
  refine Lg.unpool 7 1 0 4 v (AC q) _ rfl rfl rfl ?_
  simp [Q5]
  refine Lg.implode 8 6 vs [] [] (oss qs) (by simp [KS]) rfl (by omega) (by intro e he; cases he) (by intro e he; cases he) (Sy qs) ?_
  simp [PT]
  refine Lg.done ?_
  have hts : (oss qs).take qs.length = oss qs := List.take_of_length_le (by simp [oss])
  have htq : (AC q).take q.length = AC q := AG q
  simp [AO, e0, e90, e91, hvs, hts, htq]
 simp [Lo, hget]
 (repeat' first | omega | apply And.intro) <;>
 ·refine AA clone ?_
  simp [hw, Tt, hvs, htk]
  first
  | exact ⟨hv1, fin _ rfl rfl rfl⟩
  | exact ⟨by omega, hv1, fin _ rfl rfl rfl⟩
  | exact ⟨by omega, by omega, hv1, fin _ rfl rfl rfl⟩
end Go.Proofs.Dev
