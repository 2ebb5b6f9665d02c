/- Contracts of the functions of the program over slots and rows, each proved against the program itself; no condition beyond those that each theorem names. -/
import Derived.Test.YtfkmfobbgoflgaaGreatDoorAW
import Derived.Test.YtfkmfobbgoflgaaGreatDoorAV
import Derived.Test.YtfkmfobbgoflgaaGreatDoorAP
import Derived.Test.YtfkmfobbgoflgaaGreatDoorAO
import Derived.Test.YtfkmfobbgoflgaaGreatDoorAH
import Derived.Test.YtfkmfobbgoflgaaGreatDoorAU
import Derived.Test.YtfkmfobbgoflgaaGreatDoorAK
import Derived.Test.YtfkmfobbgoflgaaGreatDoorProg
import Derived.Test.YtfkmfobbgoflgaaGreatDoorAT
import Derived.Test.YtfkmfobbgoflgaaGreatDoorAI
import Derived.Test.YtfkmfobbgoflgaaGreatDoorAL
set_option linter.unusedSimpArgs false
set_option linter.unusedVariables false
set_option maxRecDepth 100000
namespace Go.Proofs.Dev
theorem Xb {W T : Int} {cs : List Bool} {ds : List Int} (hr : Az W T cs = true) (hd : Cd cs ds = true) : Af W T cs ds (BO cs) = true := by
 have hp : Bx W T ds (BO cs) = [] := by
  simp [Bx, Au, WG]
 simp [Af, okB, hr, hd, Pn, hp, Jp]
theorem Zx {W T : Int} {cs : List Bool} {ds : List Int} (hr : Az W T cs = true) (hd : Cd cs ds = true) :
  bb ((C9 W T cs ds).find? (Jd (BO cs))) = .tup [.os 1 (AB (Wb W T cs ds (BO cs))), .v (.bool (Zs W T cs ds (BO cs)))] := by
 have e : BL W T cs ds (BO cs) = (C9 W T cs ds).find? (Jd (BO cs)) := by simp [BL, Xb hr hd]
 simp only [Wb, Zs, e]
 cases (C9 W T cs ds).find? (Jd (BO cs)) <;> simp [bb]
theorem fL : aN Tryz.prog AU = true := by kernel_rfl
theorem Tb (W T : Int) (cs : List Bool) (ds ls : List Int) (ps : List (List Int)) (ws : List Int) (sb : Bool)
  (hws : sb = true → ls.length = ws.length ∧ ws.length ≤ 36) :
  awp Tryz.prog md3 Bt (Fin [RV.t 2] 88 1 [false] (AV.os 3 (dsA (if sb = true then cA ls ws else []))) [AV.bot])
   [(0, bkP W T cs ds ls ps), (3, .ls 1 0 0 ws.length), (4, .v (.bool sb))] [some (.arr 1 (AB ws))] := by
 cases sb with
 | false => simp [Bt]
 | true =>
 obtain ⟨e1, e2⟩ := hws rfl
 simp [Bt, Z2]
 refine AF (fun m E H => ∃ i : Nat, m = ls.length - i ∧ i ≤ ls.length ∧ H = [some (.arr 1 (AB ws)), some (.arr 3 (dsA (BR ls ws i)))] ∧
  E = [(0, bkP W T cs ds ls ps), (3, .ls 1 0 0 ws.length), (5, .ls 3 1 0 (BR ls ws i).length), (6, .fn AU []), (34, .sl 1 1 (AB ls)), (35, .v (.int .i64 ls.length)), (36, .v (.int .i64 i))]) ls.length ⟨0, by simp [BR]⟩ ?_
 rintro J hJ m E H ⟨i, rfl, hi, rfl, rfl⟩
 have hlen := GS ls ws i
 have hsuc := Ma ls ws i
 by_cases h : i < ls.length
 ·have h2 : i < ws.length := by omega
  have nx1 : MZ ls ws i = [] → Cz J (ls.length - i) [(0, bkP W T cs ds ls ps), (3, .ls 1 0 0 ws.length), (5, .ls 3 1 0 (BR ls ws i).length), (6, .fn AU []), (34, .sl 1 1 (AB ls)), (35, .v (.int .i64 ls.length)), (36, .v (.int .i64 (i + 1)))]
    [some (.arr 1 (AB ws)), some (.arr 3 (dsA (BR ls ws i)))] :=
   fun e => ⟨_, by omega, hJ _ _ _ ⟨i + 1, rfl, h, by rw [hsuc, e, List.append_nil], by rw [hsuc, e, List.append_nil]; rfl⟩⟩
  have nx2 : MZ ls ws i = [(1, (i : Int), 0)] → Cz J (ls.length - i) [(0, bkP W T cs ds ls ps), (3, .ls 1 0 0 ws.length), (5, .ls 3 1 0 ((BR ls ws i).length + 1)), (6, .fn AU []), (34, .sl 1 1 (AB ls)), (35, .v (.int .i64 ls.length)), (36, .v (.int .i64 (i + 1)))]
    [some (.arr 1 (AB ws)), some (.arr 3 (dsA (BR ls ws i) ++ [.agg [.v (.int .i64 1), .v (.int .i64 i), .v (.int .i64 0)]]))] :=
   fun e => ⟨_, by omega, hJ _ _ _ ⟨i + 1, rfl, h, by rw [hsuc, e, Mw]; rfl, by rw [hsuc, e, List.length_append]; rfl⟩⟩
  have hio : i < 36 := by omega
  simp at nx1 nx2
  simp [C5, h, h2]
  refine ⟨fL, ?_⟩
  refine AA (Ft (ati ls i)) ?_
  by_cases hw : ati ls i = 1 ∨ ati ls i = 2
  ·by_cases hw3 : ati ws i = ati ls i
   ·have nx := nx1 (by simp [MZ, hw3])
    simp [hw, hw3, h2]
    exact ⟨by omega, nx⟩
   ·have nx := nx2 (by simp [MZ, hw, hw3])
    simp [hw, hw3, h2]
    exact ⟨by omega, by omega, nx⟩
  ·have nx := nx1 (by simp only [MZ, hw, false_and, if_false])
   simp [hw, h2]
   exact ⟨by omega, nx⟩
 ·have : i = ls.length := by omega
  subst this
  simp [C5]
  clear hJ J
  have hL : (BR ls ws ls.length).length ≤ 36 := by omega
  have hE : cA ls ws = BR ls ws ls.length ++ DN ls ws ws.length := by rw [e1]; rfl
  rw [hE]
  generalize BR ls ws ls.length = L at *
  refine AF (fun m E H => ∃ i : Nat, m = ws.length - i ∧ i ≤ ws.length ∧ H = [some (.arr 3 (dsA (L ++ DN ls ws i))), some (.arr 1 (AB ws))] ∧
   E = [(0, bkP W T cs ds ls ps), (5, .ls 3 0 0 (L ++ DN ls ws i).length), (6, .fn AU []), (58, .ls 1 1 0 ws.length), (59, .v (.int .i64 ws.length)), (60, .v (.int .i64 i))]) ws.length ⟨0, by simp [DN]⟩ ?_
  rintro J hJ m E H ⟨i, rfl, hi, rfl, rfl⟩
  have hlen : (L ++ DN ls ws i).length ≤ 36 + i := by
   have := HK ls ws i
   rw [List.length_append]; omega
  have hsuc : L ++ DN ls ws (i + 1) = (L ++ DN ls ws i) ++ WT ls ws i := by rw [OM, List.append_assoc]
  by_cases h : i < ws.length
  case neg =>
   have : i = ws.length := by omega
   subst this
   simp only [C6]
   generalize L ++ DN ls ws ws.length = M at *
   simp
   refine AA (Pg M) ?_
   simp
   exact List.take_of_length_le (by simp)
  have h2 : i < ls.length := by omega
  generalize L ++ DN ls ws i = M at *
  have nx1 : WT ls ws i = [] → Cz J (ws.length - i) [(0, bkP W T cs ds ls ps), (5, .ls 3 0 0 M.length), (6, .fn AU []), (58, .ls 1 1 0 ws.length), (59, .v (.int .i64 ws.length)), (60, .v (.int .i64 (i + 1)))]
    [some (.arr 3 (dsA M)), some (.arr 1 (AB ws))] :=
   fun e => ⟨_, by omega, hJ _ _ _ ⟨i + 1, rfl, h, by rw [hsuc, e, List.append_nil], by rw [hsuc, e, List.append_nil]; rfl⟩⟩
  have nx2 : WT ls ws i = [(0, (i : Int), ati ws i)] → Cz J (ws.length - i) [(0, bkP W T cs ds ls ps), (5, .ls 3 0 0 (M.length + 1)), (6, .fn AU []), (58, .ls 1 1 0 ws.length), (59, .v (.int .i64 ws.length)), (60, .v (.int .i64 (i + 1)))]
    [some (.arr 3 (dsA M ++ [.agg [.v (.int .i64 0), .v (.int .i64 i), .v (.int .i64 (ati ws i))]])), some (.arr 1 (AB ws))] :=
   fun e => ⟨_, by omega, hJ _ _ _ ⟨i + 1, rfl, h, by rw [hsuc, e, Mw]; rfl, by rw [hsuc, e, List.length_append]; rfl⟩⟩
  have hio : i < 36 := by omega
  simp at nx1 nx2
  simp [C6, h, h2, Z2]
  refine ⟨fL, ?_⟩
  refine AA (Ft (ati ws i)) ?_
  by_cases hw : ati ws i = 1 ∨ ati ws i = 2
  ·by_cases hw3 : ati ls i = ati ws i
   ·have nx := nx1 (by simp [WT, hw3])
    simp [hw, hw3, h2, Z2]
    exact ⟨by omega, nx⟩
   ·have hw3' : ¬ ati ws i = ati ls i := fun e => hw3 e.symm
    have nx := nx2 (by simp [WT, hw, hw3'])
    simp [hw, hw3, h2, Z2]
    exact ⟨by omega, by omega, nx⟩
  ·have nx := nx1 (by simp only [WT, hw, false_and, if_false])
   simp [hw, h2, Z2]
   exact ⟨by omega, nx⟩
theorem NA (W T : Int) (cs : List Bool) (ds ls : List Int) (ps : List (List Int)) (hbk : A0 W T cs ds ls ps = true) :
  SoundAt Tryz.prog G1 [bkP W T cs ds ls ps] (.os 3 (dsA (if Zs W T cs ds (BO cs) = true then cA ls (Wb W T cs ds (BO cs)) else []))) [.bot] := by
 have hok := Cm (Mx hbk)
 have hW := Lv hok
 have hc36 := AZ hW.1
 have hdg : Cd cs ds = true := by simp only [okB, Bool.and_eq_true] at hok; exact hok.2.1
 have hokn := Cm (Xb hW.1 hdg)
 have hsv := IE W T cs ds (BO cs) hokn
 rw [Zx hW.1 hdg] at hsv
 have hzr : AB (BO cs) = List.replicate ds.length (AV.v (.int .i64 0)) := by rw [hW.2.1]; simp [BO, AB]
 have tl := Tb W T cs ds ls ps (Wb W T cs ds (BO cs)) (Zs W T cs ds (BO cs)) (fun h2 => ⟨(Qy hbk h2).1, (Qy hbk h2).2.1⟩)
 refine AE (md := md3) (ms := [false]) M5 (by simp) ?_
 simp [G2, Z2]
 (repeat' first | omega | apply And.intro) <;>
 ·refine AA hsv ?_
  simp [hzr]
  exact ⟨by rw [← hzr]; simp, tl⟩
theorem cG {ls ws : List Int} {d : Int × Int × Int} (h : d ∈ cA ls ws) : d.2.1 ≤ ws.length := by
 simp only [cA, BR, DN, List.mem_append, List.mem_flatMap, List.mem_range] at h
 rcases h with ⟨k, hk, h⟩ | ⟨k, hk, h⟩
 ·unfold MZ at h
  split at h
  ·simp at h; subst h; simp; omega
  ·simp at h
 ·unfold WT at h
  split at h
  ·simp at h; subst h; simp; omega
  ·simp at h
theorem Tc (W T : Int) (cs : List Bool) (ds ls : List Int) (ps : List (List Int)) : (kN W T cs ds ls ps).length ≤ 72 := by
 unfold kN
 split
 ·rename_i h
  simp only [Bool.and_eq_true] at h
  have e := (Qy h.1 h.2).2.1
  have a := GS ls (Wb W T cs ds (Ul W T cs)) (Wb W T cs ds (Ul W T cs)).length
  have b := HK ls (Wb W T cs ds (Ul W T cs)) (Wb W T cs ds (Ul W T cs)).length
  simp only [cA, List.length_append]
  omega
 ·simp
@[simp] theorem mo (xs : List (Int × Int × Int)) : vwL 1 (dsA xs) = dsA xs := by
  induction xs with
  | nil => rfl
  | cons x xs ih =>
    show vwL 1 (A8 x :: dsA xs) = A8 x :: dsA xs
    simp only [vwL, ih, A8, vw]
@[simp] theorem mQ (xs : List (Int × Int × Int)) : (dsA xs).take xs.length = dsA xs := List.take_of_length_le (by simp)
@[simp] abbrev IP : Nat := 78
abbrev Fb : Plan := .take (.o 33 (.bin .add 1) [.t 26, .t 32]) <| .take (.m 2 33) <| .done
def IQ : ACode := .seq (.reg [.o 2 .mv [.c (.v (.string ⟨#[]⟩))]]) <| .seq (.seq (.reg [.m 3 0, .o 4 (.bin .lss 0) [.t 3, .k 0], .m 5 4, .mg 6 0 5 true, .mg 7 0 5 true, .g 8 (.un .neg) [.t 7] 5 true, .g 9 (.bin .eql 0) [.t 6, .t 8] 5 true, .o 10 .pick [.t 5, .t 9, .kb false]]) <| .cond (.t 10) ( .seq (.reg [.o 2 .mv [.c (.v (.string ⟨#[45, 57, 50, 50, 51, 51, 55, 50, 48, 51, 54, 56, 53, 52, 55, 55, 53, 56, 48, 56]⟩))]]) <| .ret) ( .skip)) <| .seq (.seq (.reg [.m 11 0, .o 12 (.bin .lss 0) [.t 11, .k 0]]) <| .cond (.t 12) ( .seq (.reg [.m 13 0, .o 14 (.un .neg) [.t 13], .o 15 (.call 78 []) [.t 14], .o 16 (.bin .add 1) [.c (.v (.string ⟨#[45]⟩)), .t 15], .m 2 16]) <| .ret) ( .skip)) <| .seq (.seq (.reg [.m 17 0, .o 18 (.bin .lss 0) [.t 17, .k 10]]) <| .cond (.t 18) ( .seq (.reg [.m 19 0, .o 20 (.bin .add 0) [.k 48, .t 19], .o 21 (.conv .u8) [.t 20], .o 22 (.bsl 1) [.t 21], .o 23 .str [.t 22], .m 2 23]) <| .ret) ( .skip)) <| .seq (.draw ( .take (.m 24 0) <| .take (.o 25 (.bin .quo 0) [.t 24, .k 10]) <| .take (.m 27 0) <| .take (.o 28 (.bin .rem 0) [.t 27, .k 10]) <| .take (.o 29 (.bin .add 0) [.k 48, .t 28]) <| .take (.o 30 (.conv .u8) [.t 29]) <| .alt (.o 26 (.call 78 []) [.t 25]) ( .al (.o 31 (.bsl 1) [.t 30]) ( .al (.o 32 .str [.t 31]) Fb)) <| .al (.o 31 (.bsl 1) [.t 30]) ( .alt (.o 26 (.call 78 []) [.t 25]) ( .al (.o 32 .str [.t 31]) Fb) <| .al (.o 32 .str [.t 31]) ( .al (.o 26 (.call 78 []) [.t 25]) Fb)))) <| .ret
theorem Mc : cFn Tryz.prog IP 34 [.t 2] IQ := ⟨Tryz.f78, _, Tryz.func78, rfl, by kernel_rfl, by kernel_rfl, by kernel_rfl, by kernel_rfl⟩
@[simp] abbrev RM : Nat := 116
def Fc : ACode := .seq (.seq (.reg [.m 9 7, .m 10 0, .o 11 (.len true) [.t 10], .o 12 (.bin .lss 0) [.t 9, .t 11]]) <| .cond (.t 12) ( .skip) ( .exit 0)) <| .seq (.block 1 ( .seq (.reg [.m 15 0, .m 16 7, .o 17 .sidx [.t 15, .t 16], .m 18 1, .o 19 (.bin .eql 0) [.t 17, .t 18]]) <| .cond (.t 19) ( .seq (.reg [.m 20 5, .m 21 0, .m 22 6, .m 23 7, .o 24 (.sslice true true) [.t 21, .t 22, .t 23], .o 25 (.bsl 1) [.t 24], .o 26 (.app 1 16 true) [.t 20, .t 25], .m 5 26]) <| .reg [.m 27 7, .o 28 (.bin .add 0) [.t 27, .k 1], .m 6 28]) ( .skip))) <| .reg [.m 13 7, .o 14 (.bin .add 0) [.t 13, .k 1], .m 7 14]
def RN : ACode := .seq (.reg [.o 4 .mv [.c (.os 1 [])]]) <| .seq (.reg [.o 8 (.bsl 1) [], .m 5 8]) <| .seq (.reg [.o 6 .mv [.k 0]]) <| .seq (.seq (.reg [.o 7 .mv [.k 0]]) <| .block 0 ( .loop [(5, 1)] [0, 1, 5, 6, 7] Fc)) <| .seq (.reg [.m 29 5, .m 30 0, .m 31 6, .o 32 (.sslice true false) [.t 30, .t 31], .o 33 (.bsl 1) [.t 32], .o 34 (.app 1 16 true) [.t 29, .t 33], .m 4 34]) <| .ret
theorem Xc : cFn Tryz.prog RM 35 [.t 4] RN := ⟨Tryz.f116, _, Tryz.func116, rfl, by kernel_rfl, by kernel_rfl, by kernel_rfl, by kernel_rfl⟩
@[simp] abbrev Md : Nat := 117
def Bh : ACode := .seq (.seq (.reg [.m 19 4, .m 20 0, .o 21 (.len true) [.t 20], .o 22 (.bin .lss 0) [.t 19, .t 21]]) <| .cond (.t 22) ( .skip) ( .exit 0)) <| .seq (.block 1 ( .seq (.seq (.reg [.m 25 0, .m 26 4, .o 27 .sidx [.t 25, .t 26], .o 28 (.bin .lss 0) [.t 27, .c (.v (.int .u8 (48)))], .m 29 28, .mg 30 0 29 false, .mg 31 4 29 false, .g 32 .sidx [.t 30, .t 31] 29 false, .g 33 (.bin .gtr 0) [.t 32, .c (.v (.int .u8 (57)))] 29 false, .o 34 .pick [.t 29, .kb true, .t 33]]) <| .cond (.t 34) ( .seq (.reg [.o 2 .mv [.k (-1)]]) <| .ret) ( .skip)) <| .reg [.m 35 3, .o 36 (.bin .mul 0) [.k 10, .t 35], .m 37 0, .m 38 4, .o 39 .sidx [.t 37, .t 38], .o 40 (.bin .sub 0) [.t 39, .c (.v (.int .u8 (48)))], .o 41 (.conv .i64) [.t 40], .o 42 (.bin .add 0) [.t 36, .t 41], .m 3 42])) <| .reg [.m 23 4, .o 24 (.bin .add 0) [.t 23, .k 1], .m 4 24]
def Me : ACode := .seq (.reg [.o 2 .mv [.k 0]]) <| .seq (.seq (.reg [.m 5 0, .o 6 (.len true) [.t 5], .o 7 (.call 106 []) [.t 6, .k 1, .k 4], .o 8 (.un .not) [.t 7], .m 9 8, .mg 10 0 9 false, .g 11 (.len true) [.t 10] 9 false, .g 12 (.bin .gtr 0) [.t 11, .k 1] 9 false, .mg 13 12 9 false, .mg 14 0 13 true, .g 15 .sidx [.t 14, .k 0] 13 true, .g 16 (.bin .eql 0) [.t 15, .c (.v (.int .u8 (48)))] 13 true, .g 17 .pick [.t 13, .t 16, .kb false] 9 false, .o 18 .pick [.t 9, .kb true, .t 17]]) <| .cond (.t 18) ( .seq (.reg [.o 2 .mv [.k (-1)]]) <| .ret) ( .skip)) <| .seq (.reg [.o 3 .mv [.k 0]]) <| .seq (.seq (.reg [.o 4 .mv [.k 0]]) <| .block 0 ( .loop [] [0, 3, 4] Bh)) <| .seq (.reg [.m 43 3, .m 2 43]) <| .ret
theorem Td : cFn Tryz.prog Md 44 [.t 2] Me := ⟨Tryz.f117, _, Tryz.func117, rfl, by kernel_rfl, by kernel_rfl, by kernel_rfl, by kernel_rfl⟩
@[simp] abbrev LP : Nat := 107
def LQ : ACode := .seq (.reg [.o 2 .mv [.c (.v (.string ⟨#[]⟩))]]) <| .seq (.seq (.reg [.m 3 0, .o 4 (.call 106 []) [.t 3, .k 1, .k 4], .o 5 (.un .not) [.t 4]]) <| .cond (.t 5) ( .seq (.reg [.o 2 .mv [.c (.v (.string ⟨#[]⟩))]]) <| .ret) ( .skip)) <| .seq (.reg [.o 6 (.bsl 1) [.c (.v (.string ⟨#[]⟩)), .c (.v (.string ⟨#[101]⟩)), .c (.v (.string ⟨#[110]⟩)), .c (.v (.string ⟨#[119]⟩)), .c (.v (.string ⟨#[115]⟩))], .m 7 0, .o 8 (.iadr 1) [.t 6, .t 7], .l 9 8, .m 2 9]) <| .ret
theorem Rw : cFn Tryz.prog LP 10 [.t 2] LQ := ⟨Tryz.f107, _, Tryz.func107, rfl, by kernel_rfl, by kernel_rfl, by kernel_rfl, by kernel_rfl⟩
@[simp] abbrev Fd : Nat := 230
def DI : ACode := .seq (.reg [.o 2 .mv [.c (.v (.string ⟨#[]⟩))]]) <| .seq (.seq (.reg [.m 3 0, .o 4 (.bin .lss 0) [.t 3, .k 10]]) <| .cond (.t 4) ( .seq (.reg [.m 5 0, .m 6 0, .o 7 (.bin .add 0) [.t 6, .k 1], .o 8 (.sslice true true) [.c (.v (.string ⟨#[48, 49, 50, 51, 52, 53, 54, 55, 56, 57, 97, 98, 99, 100, 101, 102, 103, 104, 105, 106, 107, 108, 109, 110, 111, 112, 113, 114, 115, 116, 117, 118, 119, 120, 121, 122]⟩)), .t 5, .t 7], .m 2 8]) <| .ret) ( .skip)) <| .seq (.reg [.m 9 0, .o 10 (.bin .mul 0) [.t 9, .k 2], .m 11 0, .o 12 (.bin .mul 0) [.t 11, .k 2], .o 13 (.bin .add 0) [.t 12, .k 2], .o 14 (.sslice true true) [.c (.v (.string ⟨#[48, 48, 48, 49, 48, 50, 48, 51, 48, 52, 48, 53, 48, 54, 48, 55, 48, 56, 48, 57, 49, 48, 49, 49, 49, 50, 49, 51, 49, 52, 49, 53, 49, 54, 49, 55, 49, 56, 49, 57, 50, 48, 50, 49, 50, 50, 50, 51, 50, 52, 50, 53, 50, 54, 50, 55, 50, 56, 50, 57, 51, 48, 51, 49, 51, 50, 51, 51, 51, 52, 51, 53, 51, 54, 51, 55, 51, 56, 51, 57, 52, 48, 52, 49, 52, 50, 52, 51, 52, 52, 52, 53, 52, 54, 52, 55, 52, 56, 52, 57, 53, 48, 53, 49, 53, 50, 53, 51, 53, 52, 53, 53, 53, 54, 53, 55, 53, 56, 53, 57, 54, 48, 54, 49, 54, 50, 54, 51, 54, 52, 54, 53, 54, 54, 54, 55, 54, 56, 54, 57, 55, 48, 55, 49, 55, 50, 55, 51, 55, 52, 55, 53, 55, 54, 55, 55, 55, 56, 55, 57, 56, 48, 56, 49, 56, 50, 56, 51, 56, 52, 56, 53, 56, 54, 56, 55, 56, 56, 56, 57, 57, 48, 57, 49, 57, 50, 57, 51, 57, 52, 57, 53, 57, 54, 57, 55, 57, 56, 57, 57]⟩)), .t 10, .t 13], .m 2 14]) <| .ret
theorem Ks : cFn Tryz.prog Fd 15 [.t 2] DI := ⟨Tryz.f230, _, Tryz.func230, rfl, by kernel_rfl, by kernel_rfl, by kernel_rfl, by kernel_rfl⟩
@[simp] abbrev D6 : Nat := 187
def D7 : ACode := .seq (.reg [.o 4 .mv [.c (.v (.string ⟨#[]⟩))]]) <| .seq (.seq (.reg [.m 10 1, .o 11 (.bin .eql 0) [.t 10, .k 10]]) <| .cond (.t 11) ( .seq (.seq (.reg [.m 12 0, .o 13 (.bin .leq 0) [.k 0, .t 12], .m 14 13, .mg 15 0 14 true, .g 16 (.bin .lss 0) [.t 15, .k 100] 14 true, .o 17 .pick [.t 14, .t 16, .kb false]]) <| .cond (.t 17) ( .seq (.reg [.m 18 0, .o 19 (.call 230 []) [.t 18], .m 4 19]) <| .ret) ( .skip)) <| .seq (.reg [.o 5 (.alloc [.v (.int .u8 (0)), .v (.int .u8 (0)), .v (.int .u8 (0)), .v (.int .u8 (0)), .v (.int .u8 (0)), .v (.int .u8 (0)), .v (.int .u8 (0)), .v (.int .u8 (0)), .v (.int .u8 (0)), .v (.int .u8 (0)), .v (.int .u8 (0)), .v (.int .u8 (0)), .v (.int .u8 (0)), .v (.int .u8 (0)), .v (.int .u8 (0)), .v (.int .u8 (0)), .v (.int .u8 (0)), .v (.int .u8 (0)), .v (.int .u8 (0)), .v (.int .u8 (0)), .v (.int .u8 (0)), .v (.int .u8 (0)), .v (.int .u8 (0)), .v (.int .u8 (0))]) []]) <| .seq (.reg [.m 20 0, .o 21 (.conv .u64) [.t 20], .m 6 21]) <| .seq (.seq (.reg [.m 22 0, .o 23 (.bin .lss 0) [.t 22, .k 0]]) <| .cond (.t 23) ( .reg [.m 24 6, .o 25 (.un .neg) [.t 24], .m 6 25]) ( .skip)) <| .seq (.reg [.m 26 6, .o 27 (.call 231 []) [.t 26], .m 7 27]) <| .seq (.fail) <| .seq (.seq (.reg [.m 33 0, .o 34 (.bin .lss 0) [.t 33, .k 0]]) <| .cond (.t 34) ( .seq (.reg [.f 35 0 5, .s (.store 1) [.t 35, .c (.v (.int .u8 (45)))]]) <| .seq (.fail) <| .ret) ( .skip)) <| .seq (.fail) <| .ret) ( .skip)) <| .seq (.reg [.m 45 0, .o 46 (.conv .u64) [.t 45], .m 47 1, .m 48 0, .o 49 (.bin .lss 0) [.t 48, .k 0], .o 50 (.call 233 []) [.c (.os 1 []), .t 46, .t 47, .t 49, .kb false], .m 44 50, .e 51 0 44, .e 52 1 44, .m 8 51, .m 9 52]) <| .seq (.reg [.m 53 9, .m 4 53]) <| .ret
theorem IR : cFn Tryz.prog D6 54 [.t 4] D7 := ⟨Tryz.f187, _, Tryz.func187, rfl, by kernel_rfl, by kernel_rfl, by kernel_rfl, by kernel_rfl⟩
@[simp] abbrev Fz : Nat := 134
def F0 : ACode := .seq (.reg [.o 2 .mv [.c (.v (.string ⟨#[]⟩))]]) <| .seq (.reg [.m 3 0, .o 4 (.call 187 []) [.t 3, .k 10], .m 2 4]) <| .ret
theorem LZ : cFn Tryz.prog Fz 5 [.t 2] F0 := ⟨Tryz.f134, _, Tryz.func134, rfl, by kernel_rfl, by kernel_rfl, by kernel_rfl, by kernel_rfl⟩
@[simp] abbrev Nu : Nat := 64
def Nv : ACode := .seq (.reg [.o 2 .mv [.c (.v (.string ⟨#[]⟩))]]) <| .seq (.reg [.m 3 0, .o 4 (.call 134 []) [.t 3], .m 2 4]) <| .ret
theorem Um : cFn Tryz.prog Nu 5 [.t 2] Nv := ⟨Tryz.f64, _, Tryz.func64, rfl, by kernel_rfl, by kernel_rfl, by kernel_rfl, by kernel_rfl⟩
@[simp] abbrev Mf : Nat := 48
def Fe : ACode := .seq (.reg [.o 1 .box [.t 0], .o 2 .mv [.c (.v (.string ⟨#[]⟩))]]) <| .seq (.seq (.reg [.la 4 3 1, .o 5 (.call 105 []) [.t 4], .o 6 (.un .not) [.t 5], .m 7 6, .fg 8 1 1 7 false, .lg 9 8 7 false, .g 10 (.call 106 []) [.t 9, .k 0, .k 99] 7 false, .g 11 (.un .not) [.t 10] 7 false, .o 12 .pick [.t 7, .kb true, .t 11]]) <| .cond (.t 12) ( .seq (.reg [.o 2 .mv [.c (.v (.string ⟨#[]⟩))]]) <| .ret) ( .skip)) <| .seq (.reg [.o 13 (.bsl 1) [.c (.v (.string ⟨#[108, 97, 121]⟩)), .c (.v (.string ⟨#[108, 105, 102, 116]⟩)), .c (.v (.string ⟨#[102, 108, 105, 112]⟩)), .c (.v (.string ⟨#[102, 111, 114, 99, 101]⟩)), .c (.v (.string ⟨#[98, 97, 99, 107]⟩))], .f 14 0 1, .l 15 14, .o 16 (.iadr 1) [.t 13, .t 15], .l 17 16, .m 3 17]) <| .seq (.seq (.reg [.f 18 0 1, .l 19 18, .o 20 (.bin .leq 0) [.t 19, .k 2]]) <| .cond (.t 20) ( .reg [.m 21 3, .o 22 (.bin .add 1) [.t 21, .c (.v (.string ⟨#[32]⟩))], .f 23 1 1, .l 24 23, .o 25 (.call 78 []) [.t 24], .o 26 (.bin .add 1) [.t 22, .t 25], .m 3 26]) ( .skip)) <| .seq (.seq (.reg [.f 27 0 1, .l 28 27, .o 29 (.bin .eql 0) [.t 28, .k 0], .m 30 29, .fg 31 2 1 30 true, .lg 32 31 30 true, .g 33 (.call 107 []) [.t 32] 30 true, .g 34 (.bin .eql 1) [.t 33, .c (.v (.string ⟨#[]⟩))] 30 true, .o 35 .pick [.t 30, .t 34, .kb false]]) <| .cond (.t 35) ( .seq (.reg [.o 2 .mv [.c (.v (.string ⟨#[]⟩))]]) <| .ret) ( .skip)) <| .seq (.seq (.reg [.f 36 0 1, .l 37 36, .o 38 (.bin .eql 0) [.t 37, .k 0]]) <| .cond (.t 38) ( .reg [.m 39 3, .o 40 (.bin .add 1) [.t 39, .c (.v (.string ⟨#[32]⟩))], .f 41 2 1, .l 42 41, .o 43 (.call 107 []) [.t 42], .o 44 (.bin .add 1) [.t 40, .t 43], .m 3 44]) ( .skip)) <| .seq (.reg [.m 45 3, .m 2 45]) <| .ret
theorem Te : cFn Tryz.prog Mf 46 [.t 2] Fe := ⟨Tryz.f48, _, Tryz.func48, rfl, by kernel_rfl, by kernel_rfl, by kernel_rfl, by kernel_rfl⟩
@[simp] abbrev Mg : Nat := 20
def Ff : ACode := .seq (.reg [.o 1 .box [.t 0], .o 2 .mv [.c (.v (.string ⟨#[]⟩))]]) <| .seq (.seq (.reg [.la 4 3 1, .o 5 (.call 62 []) [.t 4], .o 6 (.un .not) [.t 5], .m 7 6, .fg 8 1 1 7 false, .lg 9 8 7 false, .g 10 (.call 63 []) [.t 9, .k 0, .k 99] 7 false, .g 11 (.un .not) [.t 10] 7 false, .o 12 .pick [.t 7, .kb true, .t 11], .m 13 12, .fg 14 0 1 13 false, .lg 15 14 13 false, .g 16 (.bin .eql 0) [.t 15, .k 0] 13 false, .mg 17 16 13 false, .fg 18 2 1 17 true, .lg 19 18 17 true, .g 20 (.call 63 []) [.t 19, .k 1, .k 4] 17 true, .g 21 (.un .not) [.t 20] 17 true, .g 22 .pick [.t 17, .t 21, .kb false] 13 false, .o 23 .pick [.t 13, .kb true, .t 22]]) <| .cond (.t 23) ( .seq (.reg [.o 2 .mv [.c (.v (.string ⟨#[]⟩))]]) <| .ret) ( .skip)) <| .seq (.reg [.o 24 (.load false 1) [.c (.vp 0 [.sl 0 1 [.v (.string ⟨#[108, 97, 121]⟩), .v (.string ⟨#[108, 105, 102, 116]⟩), .v (.string ⟨#[102, 108, 105, 112]⟩), .v (.string ⟨#[102, 111, 114, 99, 101]⟩), .v (.string ⟨#[98, 97, 99, 107]⟩)]] 0)], .f 25 0 1, .l 26 25, .o 27 (.iadr 1) [.t 24, .t 26], .l 28 27, .m 3 28]) <| .seq (.seq (.reg [.f 29 0 1, .l 30 29, .o 31 (.bin .leq 0) [.t 30, .k 2]]) <| .cond (.t 31) ( .reg [.m 32 3, .f 33 1 1, .l 34 33, .o 35 (.call 64 []) [.t 34], .o 36 (.bin .add 1) [.c (.v (.string ⟨#[32]⟩)), .t 35], .o 37 (.bin .add 1) [.t 32, .t 36], .m 3 37]) ( .skip)) <| .seq (.seq (.reg [.f 38 0 1, .l 39 38, .o 40 (.bin .eql 0) [.t 39, .k 0]]) <| .cond (.t 40) ( .reg [.m 41 3, .f 42 2 1, .l 43 42, .f 44 2 1, .l 45 44, .o 46 (.bin .add 0) [.t 45, .k 1], .o 47 (.sslice true true) [.c (.v (.string ⟨#[35, 101, 110, 119, 115]⟩)), .t 43, .t 46], .o 48 (.bin .add 1) [.c (.v (.string ⟨#[32]⟩)), .t 47], .o 49 (.bin .add 1) [.t 41, .t 48], .m 3 49]) ( .skip)) <| .seq (.reg [.m 50 3, .m 2 50]) <| .ret
theorem Tf : cFn Tryz.prog Mg 51 [.t 2] Ff := ⟨Tryz.f20, _, Tryz.func20, rfl, by kernel_rfl, by kernel_rfl, by kernel_rfl, by kernel_rfl⟩
@[simp] def mdT (_ : Nat) : List Bool := []
theorem YZ {n : Int} (h : n < 10) : QS n = [b8 (48 + n)] := by simp [QS, h]
theorem hY {n : Int} (h : ¬ n < 10) : QS n = [b8 (48 + n / 10), b8 (48 + n % 10)] := by simp [QS, h]
theorem fM (n : Int) (h0 : 0 ≤ n) (h1 : n < 10) : SoundAt Tryz.prog IP [.v (.int .i64 n)] (.v (tx (QS n))) [.bot] := by
 refine AE (md := mdT) (ms := [false]) Mc (by simp) ?_
 have hn : ¬ n < 0 := by omega
 simp [IQ, hn, h1, YZ h1, b8, eG, u8L]
 omega
theorem Fg (n : Int) (h0 : 0 ≤ n) (h1 : n < 100) : SoundAt Tryz.prog IP [.v (.int .i64 n)] (.v (tx (QS n))) [.bot] := by
 by_cases h : n < 10
 ·exact fM n h0 h
 refine AE (md := mdT) (ms := [false]) Mc (by simp) ?_
 have hn : ¬ n < 0 := by omega
 have c := fM (n / 10) (by omega) (by omega)
 rw [YZ (by omega)] at c
 simp [IQ, hn, h, eG, u8L]
 (repeat' first | omega | apply And.intro) <;>
 ·refine AA c ?_
  simp [h, hY h, b8, eG, u8L]
  try omega
theorem QC (d : Int × Int × Int) : SoundAt Tryz.prog GK [A8 d] (.v (.bool (RQ d))) [.bot] := by
 obtain ⟨k, s, w⟩ := d
 refine AE (md := mdT) (ms := [false]) KK (by simp [A8]) ?_
 by_cases h0 : k = 0 <;> by_cases h1 : k = 1 <;> by_cases h2 : k = 2 <;> by_cases h3 : k = 3 <;> by_cases h4 : k = 4 <;> by_cases hs : s = 0 <;> by_cases hw : w = 0 <;> first | (exfalso; omega) | (simp [GL, A8, RQ, h0, h1, h2, h3, h4, hs, hw])
theorem Rx (d : Int × Int × Int) : SoundAt Tryz.prog IG [A8 d] (.v (.bool (RQ d))) [.bot] := by
 obtain ⟨k, s, w⟩ := d
 refine AE (md := mdT) (ms := [false]) MR (by simp [A8]) ?_
 by_cases h0 : k = 0 <;> by_cases h1 : k = 1 <;> by_cases h2 : k = 2 <;> by_cases h3 : k = 3 <;> by_cases h4 : k = 4 <;> by_cases hs : s = 0 <;> by_cases hw : w = 0 <;> first | (exfalso; omega) | (simp [IH, A8, RQ, h0, h1, h2, h3, h4, hs, hw])
abbrev m6 : List UInt8 := [48, 49, 50, 51, 52, 53, 54, 55, 56, 57, 97, 98, 99, 100, 101, 102, 103, 104, 105, 106, 107, 108, 109, 110, 111, 112, 113, 114, 115, 116, 117, 118, 119, 120, 121, 122]
theorem dq : ∀ n : _root_.Fin 10, List.take (n.val + 1 - n.val) (List.drop n.val m6) = QS n.val := by decide +kernel
abbrev mR : List UInt8 := [48, 48, 48, 49, 48, 50, 48, 51, 48, 52, 48, 53, 48, 54, 48, 55, 48, 56, 48, 57, 49, 48, 49, 49, 49, 50, 49, 51, 49, 52, 49, 53, 49, 54, 49, 55, 49, 56, 49, 57, 50, 48, 50, 49, 50, 50, 50, 51, 50, 52, 50, 53, 50, 54, 50, 55, 50, 56, 50, 57, 51, 48, 51, 49, 51, 50, 51, 51, 51, 52, 51, 53, 51, 54, 51, 55, 51, 56, 51, 57, 52, 48, 52, 49, 52, 50, 52, 51, 52, 52, 52, 53, 52, 54, 52, 55, 52, 56, 52, 57, 53, 48, 53, 49, 53, 50, 53, 51, 53, 52, 53, 53, 53, 54, 53, 55, 53, 56, 53, 57, 54, 48, 54, 49, 54, 50, 54, 51, 54, 52, 54, 53, 54, 54, 54, 55, 54, 56, 54, 57, 55, 48, 55, 49, 55, 50, 55, 51, 55, 52, 55, 53, 55, 54, 55, 55, 55, 56, 55, 57, 56, 48, 56, 49, 56, 50, 56, 51, 56, 52, 56, 53, 56, 54, 56, 55, 56, 56, 56, 57, 57, 48, 57, 49, 57, 50, 57, 51, 57, 52, 57, 53, 57, 54, 57, 55, 57, 56, 57, 57]
theorem dr : ∀ n : _root_.Fin 100, (if n.val < 10 then true else decide (List.take (n.val * 2 + 2 - n.val * 2) (List.drop (n.val * 2) mR) = QS n.val)) = true := by decide +kernel
theorem hZ (n : Nat) (h1 : n < 100) : SoundAt Tryz.prog Fd [.v (.int .i64 (n : Int))] (.v (tx (QS n))) [.bot] := by
 refine AE (md := mdT) (ms := [false]) Ks (by simp) ?_
 by_cases h : n < 10
 ·have e : (n : Int) < 10 := by omega
  have t := dq ⟨n, h⟩
  have e1 : ((n : Int) + 1).toNat = n + 1 := by omega
  simp only at t
  rw [← t]
  have p1 : (0 : Int) ≤ (n : Int) + 1 := by omega
  have p2 : n + 1 ≤ 36 := by omega
  simp [DI, e, e1, p1, p2]
  omega
 ·have e : ¬ (n : Int) < 10 := by omega
  have t := dr ⟨n, h1⟩
  rw [if_neg h] at t
  have t' := of_decide_eq_true t
  have e1 : ((n : Int) * 2).toNat = n * 2 := by omega
  have e2 : ((n : Int) * 2 + 2).toNat = n * 2 + 2 := by omega
  rw [← t']
  have p1 : (0 : Int) ≤ (n : Int) * 2 + 2 := by omega
  have p0 : (0 : Int) ≤ (n : Int) * 2 := by omega
  have p2 : n * 2 + 2 ≤ 200 := by omega
  simp [DI, e, e1, e2, p0, p1, p2]
  omega
theorem Ya (n : Nat) (h1 : n < 100) : SoundAt Tryz.prog D6 [.v (.int .i64 (n : Int)), .v (.int .i64 10)] (.v (tx (QS n))) [.bot, .bot] := by
 refine AE (md := mdT) (ms := [false, false]) IR (by simp) ?_
 have e : (n : Int) < 100 := by omega
 have e0 : (0 : Int) ≤ n := by omega
 simp [D7, e, e0]
 refine AA (hZ n h1) ?_
 simp
theorem iA (n : Nat) (h1 : n < 100) : SoundAt Tryz.prog Fz [.v (.int .i64 (n : Int))] (.v (tx (QS n))) [.bot] := by
 refine AE (md := mdT) (ms := [false]) LZ (by simp) ?_
 simp [F0]
 refine AA (Ya n h1) ?_
 simp
theorem Jj (n : Int) (h0 : 0 ≤ n) (h1 : n < 100) : SoundAt Tryz.prog Nu [.v (.int .i64 n)] (.v (tx (QS n))) [.bot] := by
 obtain ⟨k, rfl⟩ : ∃ k : Nat, n = k := ⟨n.toNat, by omega⟩
 refine AE (md := mdT) (ms := [false]) Um (by simp) ?_
 simp [Nv]
 refine AA (iA k (by omega)) ?_
 simp
theorem LR (w : Int) : SoundAt Tryz.prog LP [.v (.int .i64 w)] (.v (tx (ND w))) [.bot] := by
 refine AE (md := mdT) (ms := [false]) Rw (by simp) ?_
 simp [LQ]
 refine AA (BP w 1 4) ?_
 by_cases h1 : w = 1
 ·subst h1; simp [ND]
 by_cases h2 : w = 2
 ·subst h2; simp [ND]
 by_cases h3 : w = 3
 ·subst h3; simp [ND]
 by_cases h4 : w = 4
 ·subst h4; simp [ND]
 have h : ¬ (1 ≤ w ∧ w ≤ 4) := by omega
 simp [ND, h1, h2, h3, h4, h]
theorem M0 {d : Int × Int × Int} (h : EN d = false) : B8 d = [] := by simp [B8, h]
theorem Xd {k s w : Int} (h : RQ (k, s, w) = true) : k = 0 ∨ k = 1 ∨ k = 2 ∨ k = 3 ∨ k = 4 := by
 simp only [RQ] at h
 split at h
 ·left; assumption
 ·split at h
  ·rename_i h2; rcases h2 with h2 | h2 <;> simp [h2]
  ·split at h
   ·rename_i h2; rcases h2 with h2 | h2 <;> simp [h2]
   ·cases h
theorem cH (n : Int) : (QS n).length ≤ 2 := by unfold QS; split <;> simp
theorem iB (n : Int) : (ND n).length ≤ 1 := by unfold ND; (repeat' split) <;> simp
theorem ZJ (w : Int) : ND w = [] ↔ ¬ (1 ≤ w ∧ w ≤ 4) := by
 unfold ND
 by_cases h1 : w = 1
 ·simp [h1]
 by_cases h2 : w = 2
 ·simp [h2]
 by_cases h3 : w = 3
 ·simp [h3]
 by_cases h4 : w = 4
 ·simp [h4]
 simp [h1, h2, h3, h4]
 omega
set_option maxHeartbeats 4000000 in
theorem Mh (d : Int × Int × Int) : SoundAt Tryz.prog Mf [A8 d] (.v (tx (B8 d))) [.bot] := by
 obtain ⟨k, s, w⟩ := d
 have nd := Rx (k, s, w)
 simp only [A8] at nd
 have li := BP s 0 99
 have le := LR w
 refine AE (md := mdT) (ms := [false]) Te (by simp [A8]) ?_
 cases hn : RQ (k, s, w) with
 | false =>
   rw [hn] at nd
   rw [M0 (by simp [EN, hn])]
   simp [Fe, A8]
   refine AA nd ?_
   simp
 | true =>
 rw [hn] at nd
 by_cases hs : 0 ≤ s ∧ s ≤ 99
 case neg =>
  rw [M0 (by simp [EN, hs])]
  simp [Fe, A8]
  refine AA nd ?_
  simp
  refine AA li ?_
  simp [hs]
 have nu := Fg s hs.1 (by omega)
 have n2 := cH s
 have l1 := iB w
 have lk := Xd hn
 simp [Fe, A8]
 refine AA nd ?_
 simp
 refine AA li ?_
 simp [hs]
 rcases lk with rfl | rfl | rfl | rfl | rfl
 ·simp
  refine AA nu ?_
  simp
  refine ⟨by omega, ?_⟩
  refine AA le ?_
  by_cases hw : 1 ≤ w ∧ w ≤ 4
  ·have hne : ND w ≠ [] := by rw [Ne, ZJ]; simpa using hw
   have e : B8 (0, s, w) = Ce 0 ++ (32 :: QS s ++ 32 :: ND w) := by simp [B8, EN, hn, hs, hw]
   rw [e]
   simp [hne]
   refine ⟨by omega, ?_⟩
   refine AA le ?_
   simp [Ce]
   omega
  ·have hne : ND w = [] := by rw [ZJ]; exact hw
   rw [M0 (by simp [EN, hw])]
   simp [hne]
 all_goals
  have e := hn
  simp [RQ] at e
 ·have e' : B8 (1, s, w) = Ce 1 ++ 32 :: QS s := by simp [B8, EN, hn, hs]
  rw [e']
  simp
  refine AA nu ?_
  simp [Ce]
  omega
 ·have e' : B8 (2, s, w) = Ce 2 ++ 32 :: QS s := by simp [B8, EN, hn, hs]
  rw [e']
  simp
  refine AA nu ?_
  simp [Ce]
  omega
 ·have e' : B8 (3, s, w) = Ce 3 := by simp [B8, EN, hn, hs]
  rw [e']
  simp [Ce]
 ·have e' : B8 (4, s, w) = Ce 4 := by simp [B8, EN, hn, hs]
  rw [e']
  simp [Ce]
set_option maxHeartbeats 4000000 in
theorem Mi (d : Int × Int × Int) : SoundAt Tryz.prog Mg [A8 d] (.v (tx (B8 d))) [.bot] := by
 obtain ⟨k, s, w⟩ := d
 have nd := QC (k, s, w)
 simp only [A8] at nd
 have li := Jw s 0 99
 have lw := Jw w 1 4
 refine AE (md := mdT) (ms := [false]) Tf (by simp [A8]) ?_
 cases hn : RQ (k, s, w) with
 | false =>
   rw [hn] at nd
   rw [M0 (by simp [EN, hn])]
   simp [Ff, A8]
   refine AA nd ?_
   simp
 | true =>
 rw [hn] at nd
 by_cases hs : 0 ≤ s ∧ s ≤ 99
 case neg =>
  rw [M0 (by simp [EN, hs])]
  simp [Ff, A8]
  refine AA nd ?_
  simp
  refine AA li ?_
  simp [hs]
 have nu := Jj s hs.1 (by omega)
 have n2 := cH s
 have lk := Xd hn
 simp [Ff, A8]
 refine AA nd ?_
 simp
 refine AA li ?_
 simp [hs]
 rcases lk with rfl | rfl | rfl | rfl | rfl
 ·simp [Ds]
  refine AA lw ?_
  by_cases hw : 1 ≤ w ∧ w ≤ 4
  ·have e : B8 (0, s, w) = Ce 0 ++ (32 :: QS s ++ 32 :: ND w) := by simp [B8, EN, hn, hs, hw]
   rw [e]
   have h4 : w = 1 ∨ w = 2 ∨ w = 3 ∨ w = 4 := by omega
   simp [hw, Ds]
   refine AA nu ?_
   rcases h4 with rfl | rfl | rfl | rfl <;>
   ·simp [Ce, ND]
    omega
  ·rw [M0 (by simp [EN, hw])]
   simp [hw]
 all_goals
  have e := hn
  simp [RQ] at e
 ·have e' : B8 (1, s, w) = Ce 1 ++ 32 :: QS s := by simp [B8, EN, hn, hs]
  rw [e']
  simp [Ds]
  refine AA nu ?_
  simp [Ce]
  omega
 ·have e' : B8 (2, s, w) = Ce 2 ++ 32 :: QS s := by simp [B8, EN, hn, hs]
  rw [e']
  simp [Ds]
  refine AA nu ?_
  simp [Ce]
  omega
 ·have e' : B8 (3, s, w) = Ce 3 := by simp [B8, EN, hn, hs]
  rw [e']
  simp [Ce, Ds]
 ·have e' : B8 (4, s, w) = Ce 4 := by simp [B8, EN, hn, hs]
  rw [e']
  simp [Ce, Ds]
end Go.Proofs.Dev
