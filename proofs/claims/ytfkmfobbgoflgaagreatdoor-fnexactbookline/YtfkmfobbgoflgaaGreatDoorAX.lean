/- Contracts of the functions of the program over slots and rows, each proved against the program itself; no condition beyond those that each theorem names. -/
import Derived.Test.YtfkmfobbgoflgaaGreatDoorAW
import Derived.Test.YtfkmfobbgoflgaaGreatDoorAU
import Derived.Test.YtfkmfobbgoflgaaGreatDoorAV
import Derived.Test.YtfkmfobbgoflgaaGreatDoorAH
import Derived.Test.YtfkmfobbgoflgaaGreatDoorAK
import Derived.Test.YtfkmfobbgoflgaaGreatDoorProg
import Derived.Test.YtfkmfobbgoflgaaGreatDoorAT
import Derived.Test.YtfkmfobbgoflgaaGreatDoorAI
import Derived.Test.YtfkmfobbgoflgaaGreatDoorAL
import Derived.Test.YtfkmfobbgoflgaaGreatDoorAO
import Derived.Shelf.Strings.Search3
import Derived.Shelf.Strings.Cut
import Derived.Shelf.Strings.Split
import Derived.Shelf.Strconv.AtoiAll
import Derived.Test.YtfkmfobbgoflgaaGreatDoorAJ
set_option linter.unusedSimpArgs false
set_option linter.unusedVariables false
set_option maxRecDepth 100000
namespace Go.Proofs.Dev
theorem Yj {W T : Int} {cs : List Bool} {ds : List Int} (hr : A0 W T cs = true) (hd : Cg cs ds = true) : Af W T cs ds (BO cs) = true := by
 have hp : B3 W T ds (BO cs) = [] := by
  simp [B3, Aw, XL]
 simp [Af, okB, hr, hd, Qf, hp, KP]
theorem bd {W T : Int} {cs : List Bool} {ds : List Int} (hr : A0 W T cs = true) (hd : Cg cs ds = true) :
  dR ((DG W T cs ds).find? (KD (BO cs))) = .tup [.os 1 (AB (Xj W T cs ds (BO cs))), .v (.bool (bW W T cs ds (BO cs)))] := by
 have e : BL W T cs ds (BO cs) = (DG W T cs ds).find? (KD (BO cs)) := by simp [BL, Yj hr hd]
 simp only [Xj, bW, e]
 cases (DG W T cs ds).find? (KD (BO cs)) <;> simp [dR]
theorem hD : cL Tryz.prog AU = true := by kernel_rfl
theorem Uf (W T : Int) (cs : List Bool) (ds ls : List Int) (ps : List (List Int)) (ws : List Int) (sb : Bool)
  (hws : sb = true → ls.length = ws.length ∧ ws.length ≤ 36) :
  awp Tryz.prog md3 Bv (Fin [RV.t 2] 88 1 [false] (AV.os 3 (dsA (if sb = true then dn ls ws else []))) [AV.bot])
   [(0, bkP W T cs ds ls ps), (3, .ls 1 0 0 ws.length), (4, .v (.bool sb))] [some (.arr 1 (AB ws))] := by
 cases sb with
 | false => simp [Bv]
 | true =>
 obtain ⟨e1, e2⟩ := hws rfl
 simp [Bv, bj]
 refine AF (fun m E H => ∃ i : Nat, m = ls.length - i ∧ i ≤ ls.length ∧ H = [some (.arr 1 (AB ws)), some (.arr 3 (dsA (BR ls ws i)))] ∧
  E = [(0, bkP W T cs ds ls ps), (3, .ls 1 0 0 ws.length), (5, .ls 3 1 0 (BR ls ws i).length), (6, .fn AU []), (34, .sl 1 1 (AB ls)), (35, .v (.int .i64 ls.length)), (36, .v (.int .i64 i))]) ls.length ⟨0, by simp [BR]⟩ ?_
 rintro J hJ m E H ⟨i, rfl, hi, rfl, rfl⟩
 have hlen := Gr ls ws i
 have hsuc := NL ls ws i
 by_cases h : i < ls.length
 ·have h2 : i < ws.length := by omega
  have nx1 : NK ls ws i = [] → C6 J (ls.length - i) [(0, bkP W T cs ds ls ps), (3, .ls 1 0 0 ws.length), (5, .ls 3 1 0 (BR ls ws i).length), (6, .fn AU []), (34, .sl 1 1 (AB ls)), (35, .v (.int .i64 ls.length)), (36, .v (.int .i64 (i + 1)))]
    [some (.arr 1 (AB ws)), some (.arr 3 (dsA (BR ls ws i)))] :=
   fun e => ⟨_, by omega, hJ _ _ _ ⟨i + 1, rfl, h, by rw [hsuc, e, List.append_nil], by rw [hsuc, e, List.append_nil]; rfl⟩⟩
  have nx2 : NK ls ws i = [(1, (i : Int), 0)] → C6 J (ls.length - i) [(0, bkP W T cs ds ls ps), (3, .ls 1 0 0 ws.length), (5, .ls 3 1 0 ((BR ls ws i).length + 1)), (6, .fn AU []), (34, .sl 1 1 (AB ls)), (35, .v (.int .i64 ls.length)), (36, .v (.int .i64 (i + 1)))]
    [some (.arr 1 (AB ws)), some (.arr 3 (dsA (BR ls ws i) ++ [.agg [.v (.int .i64 1), .v (.int .i64 i), .v (.int .i64 0)]]))] :=
   fun e => ⟨_, by omega, hJ _ _ _ ⟨i + 1, rfl, h, by rw [hsuc, e, Nm]; rfl, by rw [hsuc, e, List.length_append]; rfl⟩⟩
  have hio : i < 36 := by omega
  simp at nx1 nx2
  simp [DC, h, h2]
  refine ⟨hD, ?_⟩
  refine AA (GE (ati ls i)) ?_
  by_cases hw : ati ls i = 1 ∨ ati ls i = 2
  ·by_cases hw3 : ati ws i = ati ls i
   ·have nx := nx1 (by simp [NK, hw3])
    simp [hw, hw3, h2]
    exact ⟨by omega, nx⟩
   ·have nx := nx2 (by simp [NK, hw, hw3])
    simp [hw, hw3, h2]
    exact ⟨by omega, by omega, nx⟩
  ·have nx := nx1 (by simp only [NK, hw, false_and, if_false])
   simp [hw, h2]
   exact ⟨by omega, nx⟩
 ·have : i = ls.length := by omega
  subst this
  simp [DC]
  clear hJ J
  have hL : (BR ls ws ls.length).length ≤ 36 := by omega
  have hE : dn ls ws = BR ls ws ls.length ++ DX ls ws ws.length := by rw [e1]; rfl
  rw [hE]
  generalize BR ls ws ls.length = L at *
  refine AF (fun m E H => ∃ i : Nat, m = ws.length - i ∧ i ≤ ws.length ∧ H = [some (.arr 3 (dsA (L ++ DX ls ws i))), some (.arr 1 (AB ws))] ∧
   E = [(0, bkP W T cs ds ls ps), (5, .ls 3 0 0 (L ++ DX ls ws i).length), (6, .fn AU []), (58, .ls 1 1 0 ws.length), (59, .v (.int .i64 ws.length)), (60, .v (.int .i64 i))]) ws.length ⟨0, by simp [DX]⟩ ?_
  rintro J hJ m E H ⟨i, rfl, hi, rfl, rfl⟩
  have hlen : (L ++ DX ls ws i).length ≤ 36 + i := by
   have := Hm ls ws i
   rw [List.length_append]; omega
  have hsuc : L ++ DX ls ws (i + 1) = (L ++ DX ls ws i) ++ XZ ls ws i := by rw [PH, List.append_assoc]
  by_cases h : i < ws.length
  case neg =>
   have : i = ws.length := by omega
   subst this
   simp only [DD]
   generalize L ++ DX ls ws ws.length = M at *
   simp
   refine AA (QZ M) ?_
   simp
   exact List.take_of_length_le (by simp)
  have h2 : i < ls.length := by omega
  generalize L ++ DX ls ws i = M at *
  have nx1 : XZ ls ws i = [] → C6 J (ws.length - i) [(0, bkP W T cs ds ls ps), (5, .ls 3 0 0 M.length), (6, .fn AU []), (58, .ls 1 1 0 ws.length), (59, .v (.int .i64 ws.length)), (60, .v (.int .i64 (i + 1)))]
    [some (.arr 3 (dsA M)), some (.arr 1 (AB ws))] :=
   fun e => ⟨_, by omega, hJ _ _ _ ⟨i + 1, rfl, h, by rw [hsuc, e, List.append_nil], by rw [hsuc, e, List.append_nil]; rfl⟩⟩
  have nx2 : XZ ls ws i = [(0, (i : Int), ati ws i)] → C6 J (ws.length - i) [(0, bkP W T cs ds ls ps), (5, .ls 3 0 0 (M.length + 1)), (6, .fn AU []), (58, .ls 1 1 0 ws.length), (59, .v (.int .i64 ws.length)), (60, .v (.int .i64 (i + 1)))]
    [some (.arr 3 (dsA M ++ [.agg [.v (.int .i64 0), .v (.int .i64 i), .v (.int .i64 (ati ws i))]])), some (.arr 1 (AB ws))] :=
   fun e => ⟨_, by omega, hJ _ _ _ ⟨i + 1, rfl, h, by rw [hsuc, e, Nm]; rfl, by rw [hsuc, e, List.length_append]; rfl⟩⟩
  have hio : i < 36 := by omega
  simp at nx1 nx2
  simp [DD, h, h2, bj]
  refine ⟨hD, ?_⟩
  refine AA (GE (ati ws i)) ?_
  by_cases hw : ati ws i = 1 ∨ ati ws i = 2
  ·by_cases hw3 : ati ls i = ati ws i
   ·have nx := nx1 (by simp [XZ, hw3])
    simp [hw, hw3, h2, bj]
    exact ⟨by omega, nx⟩
   ·have hw3' : ¬ ati ws i = ati ls i := fun e => hw3 e.symm
    have nx := nx2 (by simp [XZ, hw, hw3'])
    simp [hw, hw3, h2, bj]
    exact ⟨by omega, by omega, nx⟩
  ·have nx := nx1 (by simp only [XZ, hw, false_and, if_false])
   simp [hw, h2, bj]
   exact ⟨by omega, nx⟩
theorem N1 (W T : Int) (cs : List Bool) (ds ls : List Int) (ps : List (List Int)) (hbk : Am W T cs ds ls ps = true) :
  SoundAt Tryz.prog HR [bkP W T cs ds ls ps] (.os 3 (dsA (if bW W T cs ds (BO cs) = true then dn ls (Xj W T cs ds (BO cs)) else []))) [.bot] := by
 have hok := Cq (Nn hbk)
 have hW := Mg hok
 have hc36 := AZ hW.1
 have hdg : Cg cs ds = true := by simp only [okB, Bool.and_eq_true] at hok; exact hok.2.1
 have hokn := Cq (Yj hW.1 hdg)
 have hsv := Ip W T cs ds (BO cs) hokn
 rw [bd hW.1 hdg] at hsv
 have hzr : AB (BO cs) = List.replicate ds.length (AV.v (.int .i64 0)) := by rw [hW.2.1]; simp [BO, AB]
 have tl := Uf W T cs ds ls ps (Xj W T cs ds (BO cs)) (bW W T cs ds (BO cs)) (fun h2 => ⟨(Ru hbk h2).1, (Ru hbk h2).2.1⟩)
 refine AE (md := md3) (ms := [false]) Nw (by simp) ?_
 simp [HS, bj]
 (repeat' first | omega | apply And.intro) <;>
 ·refine AA hsv ?_
  simp [hzr]
  exact ⟨by rw [← hzr]; simp, tl⟩
theorem dv {ls ws : List Int} {d : Int × Int × Int} (h : d ∈ dn ls ws) : d.2.1 ≤ ws.length := by
 simp only [dn, BR, DX, List.mem_append, List.mem_flatMap, List.mem_range] at h
 rcases h with ⟨k, hk, h⟩ | ⟨k, hk, h⟩
 ·unfold NK at h
  split at h
  ·simp at h; subst h; simp; omega
  ·simp at h
 ·unfold XZ at h
  split at h
  ·simp at h; subst h; simp; omega
  ·simp at h
theorem Ug (W T : Int) (cs : List Bool) (ds ls : List Int) (ps : List (List Int)) : (mL W T cs ds ls ps).length ≤ 72 := by
 unfold mL
 split
 ·rename_i h
  simp only [Bool.and_eq_true] at h
  have e := (Ru h.1 h.2).2.1
  have a := Gr ls (Xj W T cs ds (Vo W T cs)) (Xj W T cs ds (Vo W T cs)).length
  have b := Hm ls (Xj W T cs ds (Vo W T cs)) (Xj W T cs ds (Vo W T cs)).length
  simp only [dn, List.length_append]
  omega
 ·simp
@[simp] theorem oW (xs : List (Int × Int × Int)) : vwL 1 (dsA xs) = dsA xs := by
  induction xs with
  | nil => rfl
  | cons x xs ih =>
    show vwL 1 (A8 x :: dsA xs) = A8 x :: dsA xs
    simp only [vwL, ih, A8, vw]
@[simp] theorem oA (xs : List (Int × Int × Int)) : (dsA xs).take xs.length = dsA xs := List.take_of_length_le (by simp)
@[simp] abbrev Iy : Nat := 78
abbrev Ft : Plan := .take (.o 33 (.bin .add 1) [.t 26, .t 32]) <| .take (.m 2 33) <| .done
def Iz : ACode := .seq (.reg [.o 2 .mv [.c (.v (.string ⟨#[]⟩))]]) <| .seq (.seq (.reg [.m 3 0, .o 4 (.bin .lss 0) [.t 3, .k 0], .m 5 4, .mg 6 0 5 true, .mg 7 0 5 true, .g 8 (.un .neg) [.t 7] 5 true, .g 9 (.bin .eql 0) [.t 6, .t 8] 5 true, .o 10 .pick [.t 5, .t 9, .kb false]]) <| .cond (.t 10) ( .seq (.reg [.o 2 .mv [.c (.v (.string ⟨#[45, 57, 50, 50, 51, 51, 55, 50, 48, 51, 54, 56, 53, 52, 55, 55, 53, 56, 48, 56]⟩))]]) <| .ret) ( .skip)) <| .seq (.seq (.reg [.m 11 0, .o 12 (.bin .lss 0) [.t 11, .k 0]]) <| .cond (.t 12) ( .seq (.reg [.m 13 0, .o 14 (.un .neg) [.t 13], .o 15 (.call 78 []) [.t 14], .o 16 (.bin .add 1) [.c (.v (.string ⟨#[45]⟩)), .t 15], .m 2 16]) <| .ret) ( .skip)) <| .seq (.seq (.reg [.m 17 0, .o 18 (.bin .lss 0) [.t 17, .k 10]]) <| .cond (.t 18) ( .seq (.reg [.m 19 0, .o 20 (.bin .add 0) [.k 48, .t 19], .o 21 (.conv .u8) [.t 20], .o 22 (.bsl 1) [.t 21], .o 23 .str [.t 22], .m 2 23]) <| .ret) ( .skip)) <| .seq (.draw ( .take (.m 24 0) <| .take (.o 25 (.bin .quo 0) [.t 24, .k 10]) <| .take (.m 27 0) <| .take (.o 28 (.bin .rem 0) [.t 27, .k 10]) <| .take (.o 29 (.bin .add 0) [.k 48, .t 28]) <| .take (.o 30 (.conv .u8) [.t 29]) <| .alt (.o 26 (.call 78 []) [.t 25]) ( .al (.o 31 (.bsl 1) [.t 30]) ( .al (.o 32 .str [.t 31]) Ft)) <| .al (.o 31 (.bsl 1) [.t 30]) ( .alt (.o 26 (.call 78 []) [.t 25]) ( .al (.o 32 .str [.t 31]) Ft) <| .al (.o 32 .str [.t 31]) ( .al (.o 26 (.call 78 []) [.t 25]) Ft)))) <| .ret
theorem NN : cFn Tryz.prog Iy 34 [.t 2] Iz := ⟨Tryz.f78, _, Tryz.func78, rfl, by kernel_rfl, by kernel_rfl, by kernel_rfl, by kernel_rfl⟩
@[simp] abbrev SK : Nat := 116
def Fu : ACode := .seq (.seq (.reg [.m 9 7, .m 10 0, .o 11 (.len true) [.t 10], .o 12 (.bin .lss 0) [.t 9, .t 11]]) <| .cond (.t 12) ( .skip) ( .exit 0)) <| .seq (.block 1 ( .seq (.reg [.m 15 0, .m 16 7, .o 17 .sidx [.t 15, .t 16], .m 18 1, .o 19 (.bin .eql 0) [.t 17, .t 18]]) <| .cond (.t 19) ( .seq (.reg [.m 20 5, .m 21 0, .m 22 6, .m 23 7, .o 24 (.sslice true true) [.t 21, .t 22, .t 23], .o 25 (.bsl 1) [.t 24], .o 26 (.app 1 16 true) [.t 20, .t 25], .m 5 26]) <| .reg [.m 27 7, .o 28 (.bin .add 0) [.t 27, .k 1], .m 6 28]) ( .skip))) <| .reg [.m 13 7, .o 14 (.bin .add 0) [.t 13, .k 1], .m 7 14]
def SL : ACode := .seq (.reg [.o 4 .mv [.c (.os 1 [])]]) <| .seq (.reg [.o 8 (.bsl 1) [], .m 5 8]) <| .seq (.reg [.o 6 .mv [.k 0]]) <| .seq (.seq (.reg [.o 7 .mv [.k 0]]) <| .block 0 ( .loop [(5, 1)] [0, 1, 5, 6, 7] Fu)) <| .seq (.reg [.m 29 5, .m 30 0, .m 31 6, .o 32 (.sslice true false) [.t 30, .t 31], .o 33 (.bsl 1) [.t 32], .o 34 (.app 1 16 true) [.t 29, .t 33], .m 4 34]) <| .ret
theorem Yk : cFn Tryz.prog SK 35 [.t 4] SL := ⟨Tryz.f116, _, Tryz.func116, rfl, by kernel_rfl, by kernel_rfl, by kernel_rfl, by kernel_rfl⟩
@[simp] abbrev NO : Nat := 117
def Bh : ACode := .seq (.seq (.reg [.m 19 4, .m 20 0, .o 21 (.len true) [.t 20], .o 22 (.bin .lss 0) [.t 19, .t 21]]) <| .cond (.t 22) ( .skip) ( .exit 0)) <| .seq (.block 1 ( .seq (.seq (.reg [.m 25 0, .m 26 4, .o 27 .sidx [.t 25, .t 26], .o 28 (.bin .lss 0) [.t 27, .c (.v (.int .u8 (48)))], .m 29 28, .mg 30 0 29 false, .mg 31 4 29 false, .g 32 .sidx [.t 30, .t 31] 29 false, .g 33 (.bin .gtr 0) [.t 32, .c (.v (.int .u8 (57)))] 29 false, .o 34 .pick [.t 29, .kb true, .t 33]]) <| .cond (.t 34) ( .seq (.reg [.o 2 .mv [.k (-1)]]) <| .ret) ( .skip)) <| .reg [.m 35 3, .o 36 (.bin .mul 0) [.k 10, .t 35], .m 37 0, .m 38 4, .o 39 .sidx [.t 37, .t 38], .o 40 (.bin .sub 0) [.t 39, .c (.v (.int .u8 (48)))], .o 41 (.conv .i64) [.t 40], .o 42 (.bin .add 0) [.t 36, .t 41], .m 3 42])) <| .reg [.m 23 4, .o 24 (.bin .add 0) [.t 23, .k 1], .m 4 24]
def NP : ACode := .seq (.reg [.o 2 .mv [.k 0]]) <| .seq (.seq (.reg [.m 5 0, .o 6 (.len true) [.t 5], .o 7 (.call 106 []) [.t 6, .k 1, .k 4], .o 8 (.un .not) [.t 7], .m 9 8, .mg 10 0 9 false, .g 11 (.len true) [.t 10] 9 false, .g 12 (.bin .gtr 0) [.t 11, .k 1] 9 false, .mg 13 12 9 false, .mg 14 0 13 true, .g 15 .sidx [.t 14, .k 0] 13 true, .g 16 (.bin .eql 0) [.t 15, .c (.v (.int .u8 (48)))] 13 true, .g 17 .pick [.t 13, .t 16, .kb false] 9 false, .o 18 .pick [.t 9, .kb true, .t 17]]) <| .cond (.t 18) ( .seq (.reg [.o 2 .mv [.k (-1)]]) <| .ret) ( .skip)) <| .seq (.reg [.o 3 .mv [.k 0]]) <| .seq (.seq (.reg [.o 4 .mv [.k 0]]) <| .block 0 ( .loop [] [0, 3, 4] Bh)) <| .seq (.reg [.m 43 3, .m 2 43]) <| .ret
theorem Uh : cFn Tryz.prog NO 44 [.t 2] NP := ⟨Tryz.f117, _, Tryz.func117, rfl, by kernel_rfl, by kernel_rfl, by kernel_rfl, by kernel_rfl⟩
@[simp] abbrev L1 : Nat := 107
def L2 : ACode := .seq (.reg [.o 2 .mv [.c (.v (.string ⟨#[]⟩))]]) <| .seq (.seq (.reg [.m 3 0, .o 4 (.call 106 []) [.t 3, .k 1, .k 4], .o 5 (.un .not) [.t 4]]) <| .cond (.t 5) ( .seq (.reg [.o 2 .mv [.c (.v (.string ⟨#[]⟩))]]) <| .ret) ( .skip)) <| .seq (.reg [.o 6 (.bsl 1) [.c (.v (.string ⟨#[]⟩)), .c (.v (.string ⟨#[101]⟩)), .c (.v (.string ⟨#[110]⟩)), .c (.v (.string ⟨#[119]⟩)), .c (.v (.string ⟨#[115]⟩))], .m 7 0, .o 8 (.iadr 1) [.t 6, .t 7], .l 9 8, .m 2 9]) <| .ret
theorem Sv : cFn Tryz.prog L1 10 [.t 2] L2 := ⟨Tryz.f107, _, Tryz.func107, rfl, by kernel_rfl, by kernel_rfl, by kernel_rfl, by kernel_rfl⟩
@[simp] abbrev Fv : Nat := 230
def DQ : ACode := .seq (.reg [.o 2 .mv [.c (.v (.string ⟨#[]⟩))]]) <| .seq (.seq (.reg [.m 3 0, .o 4 (.bin .lss 0) [.t 3, .k 10]]) <| .cond (.t 4) ( .seq (.reg [.m 5 0, .m 6 0, .o 7 (.bin .add 0) [.t 6, .k 1], .o 8 (.sslice true true) [.c (.v (.string ⟨#[48, 49, 50, 51, 52, 53, 54, 55, 56, 57, 97, 98, 99, 100, 101, 102, 103, 104, 105, 106, 107, 108, 109, 110, 111, 112, 113, 114, 115, 116, 117, 118, 119, 120, 121, 122]⟩)), .t 5, .t 7], .m 2 8]) <| .ret) ( .skip)) <| .seq (.reg [.m 9 0, .o 10 (.bin .mul 0) [.t 9, .k 2], .m 11 0, .o 12 (.bin .mul 0) [.t 11, .k 2], .o 13 (.bin .add 0) [.t 12, .k 2], .o 14 (.sslice true true) [.c (.v (.string ⟨#[48, 48, 48, 49, 48, 50, 48, 51, 48, 52, 48, 53, 48, 54, 48, 55, 48, 56, 48, 57, 49, 48, 49, 49, 49, 50, 49, 51, 49, 52, 49, 53, 49, 54, 49, 55, 49, 56, 49, 57, 50, 48, 50, 49, 50, 50, 50, 51, 50, 52, 50, 53, 50, 54, 50, 55, 50, 56, 50, 57, 51, 48, 51, 49, 51, 50, 51, 51, 51, 52, 51, 53, 51, 54, 51, 55, 51, 56, 51, 57, 52, 48, 52, 49, 52, 50, 52, 51, 52, 52, 52, 53, 52, 54, 52, 55, 52, 56, 52, 57, 53, 48, 53, 49, 53, 50, 53, 51, 53, 52, 53, 53, 53, 54, 53, 55, 53, 56, 53, 57, 54, 48, 54, 49, 54, 50, 54, 51, 54, 52, 54, 53, 54, 54, 54, 55, 54, 56, 54, 57, 55, 48, 55, 49, 55, 50, 55, 51, 55, 52, 55, 53, 55, 54, 55, 55, 55, 56, 55, 57, 56, 48, 56, 49, 56, 50, 56, 51, 56, 52, 56, 53, 56, 54, 56, 55, 56, 56, 56, 57, 57, 48, 57, 49, 57, 50, 57, 51, 57, 52, 57, 53, 57, 54, 57, 55, 57, 56, 57, 57]⟩)), .t 10, .t 13], .m 2 14]) <| .ret
theorem LS : cFn Tryz.prog Fv 15 [.t 2] DQ := ⟨Tryz.f230, _, Tryz.func230, rfl, by kernel_rfl, by kernel_rfl, by kernel_rfl, by kernel_rfl⟩
@[simp] abbrev EH : Nat := 187
def EI : ACode := .seq (.reg [.o 4 .mv [.c (.v (.string ⟨#[]⟩))]]) <| .seq (.seq (.reg [.m 10 1, .o 11 (.bin .eql 0) [.t 10, .k 10]]) <| .cond (.t 11) ( .seq (.seq (.reg [.m 12 0, .o 13 (.bin .leq 0) [.k 0, .t 12], .m 14 13, .mg 15 0 14 true, .g 16 (.bin .lss 0) [.t 15, .k 100] 14 true, .o 17 .pick [.t 14, .t 16, .kb false]]) <| .cond (.t 17) ( .seq (.reg [.m 18 0, .o 19 (.call 230 []) [.t 18], .m 4 19]) <| .ret) ( .skip)) <| .seq (.reg [.o 5 (.alloc [.v (.int .u8 (0)), .v (.int .u8 (0)), .v (.int .u8 (0)), .v (.int .u8 (0)), .v (.int .u8 (0)), .v (.int .u8 (0)), .v (.int .u8 (0)), .v (.int .u8 (0)), .v (.int .u8 (0)), .v (.int .u8 (0)), .v (.int .u8 (0)), .v (.int .u8 (0)), .v (.int .u8 (0)), .v (.int .u8 (0)), .v (.int .u8 (0)), .v (.int .u8 (0)), .v (.int .u8 (0)), .v (.int .u8 (0)), .v (.int .u8 (0)), .v (.int .u8 (0)), .v (.int .u8 (0)), .v (.int .u8 (0)), .v (.int .u8 (0)), .v (.int .u8 (0))]) []]) <| .seq (.reg [.m 20 0, .o 21 (.conv .u64) [.t 20], .m 6 21]) <| .seq (.seq (.reg [.m 22 0, .o 23 (.bin .lss 0) [.t 22, .k 0]]) <| .cond (.t 23) ( .reg [.m 24 6, .o 25 (.un .neg) [.t 24], .m 6 25]) ( .skip)) <| .seq (.reg [.m 26 6, .o 27 (.call 231 []) [.t 26], .m 7 27]) <| .seq (.fail) <| .seq (.seq (.reg [.m 33 0, .o 34 (.bin .lss 0) [.t 33, .k 0]]) <| .cond (.t 34) ( .seq (.reg [.f 35 0 5, .s (.store 1) [.t 35, .c (.v (.int .u8 (45)))]]) <| .seq (.fail) <| .ret) ( .skip)) <| .seq (.fail) <| .ret) ( .skip)) <| .seq (.reg [.m 45 0, .o 46 (.conv .u64) [.t 45], .m 47 1, .m 48 0, .o 49 (.bin .lss 0) [.t 48, .k 0], .o 50 (.call 233 []) [.c (.os 1 []), .t 46, .t 47, .t 49, .kb false], .m 44 50, .e 51 0 44, .e 52 1 44, .m 8 51, .m 9 52]) <| .seq (.reg [.m 53 9, .m 4 53]) <| .ret
theorem I0 : cFn Tryz.prog EH 54 [.t 4] EI := ⟨Tryz.f187, _, Tryz.func187, rfl, by kernel_rfl, by kernel_rfl, by kernel_rfl, by kernel_rfl⟩
@[simp] abbrev GK : Nat := 134
def GL : ACode := .seq (.reg [.o 2 .mv [.c (.v (.string ⟨#[]⟩))]]) <| .seq (.reg [.m 3 0, .o 4 (.call 187 []) [.t 3, .k 10], .m 2 4]) <| .ret
theorem MJ : cFn Tryz.prog GK 5 [.t 2] GL := ⟨Tryz.f134, _, Tryz.func134, rfl, by kernel_rfl, by kernel_rfl, by kernel_rfl, by kernel_rfl⟩
@[simp] abbrev On : Nat := 64
def Oo : ACode := .seq (.reg [.o 2 .mv [.c (.v (.string ⟨#[]⟩))]]) <| .seq (.reg [.m 3 0, .o 4 (.call 134 []) [.t 3], .m 2 4]) <| .ret
theorem Vp : cFn Tryz.prog On 5 [.t 2] Oo := ⟨Tryz.f64, _, Tryz.func64, rfl, by kernel_rfl, by kernel_rfl, by kernel_rfl, by kernel_rfl⟩
@[simp] abbrev NQ : Nat := 48
def Fw : ACode := .seq (.reg [.o 1 .box [.t 0], .o 2 .mv [.c (.v (.string ⟨#[]⟩))]]) <| .seq (.seq (.reg [.la 4 3 1, .o 5 (.call 105 []) [.t 4], .o 6 (.un .not) [.t 5], .m 7 6, .fg 8 1 1 7 false, .lg 9 8 7 false, .g 10 (.call 106 []) [.t 9, .k 0, .k 99] 7 false, .g 11 (.un .not) [.t 10] 7 false, .o 12 .pick [.t 7, .kb true, .t 11]]) <| .cond (.t 12) ( .seq (.reg [.o 2 .mv [.c (.v (.string ⟨#[]⟩))]]) <| .ret) ( .skip)) <| .seq (.reg [.o 13 (.bsl 1) [.c (.v (.string ⟨#[108, 97, 121]⟩)), .c (.v (.string ⟨#[108, 105, 102, 116]⟩)), .c (.v (.string ⟨#[102, 108, 105, 112]⟩)), .c (.v (.string ⟨#[102, 111, 114, 99, 101]⟩)), .c (.v (.string ⟨#[98, 97, 99, 107]⟩))], .f 14 0 1, .l 15 14, .o 16 (.iadr 1) [.t 13, .t 15], .l 17 16, .m 3 17]) <| .seq (.seq (.reg [.f 18 0 1, .l 19 18, .o 20 (.bin .leq 0) [.t 19, .k 2]]) <| .cond (.t 20) ( .reg [.m 21 3, .o 22 (.bin .add 1) [.t 21, .c (.v (.string ⟨#[32]⟩))], .f 23 1 1, .l 24 23, .o 25 (.call 78 []) [.t 24], .o 26 (.bin .add 1) [.t 22, .t 25], .m 3 26]) ( .skip)) <| .seq (.seq (.reg [.f 27 0 1, .l 28 27, .o 29 (.bin .eql 0) [.t 28, .k 0], .m 30 29, .fg 31 2 1 30 true, .lg 32 31 30 true, .g 33 (.call 107 []) [.t 32] 30 true, .g 34 (.bin .eql 1) [.t 33, .c (.v (.string ⟨#[]⟩))] 30 true, .o 35 .pick [.t 30, .t 34, .kb false]]) <| .cond (.t 35) ( .seq (.reg [.o 2 .mv [.c (.v (.string ⟨#[]⟩))]]) <| .ret) ( .skip)) <| .seq (.seq (.reg [.f 36 0 1, .l 37 36, .o 38 (.bin .eql 0) [.t 37, .k 0]]) <| .cond (.t 38) ( .reg [.m 39 3, .o 40 (.bin .add 1) [.t 39, .c (.v (.string ⟨#[32]⟩))], .f 41 2 1, .l 42 41, .o 43 (.call 107 []) [.t 42], .o 44 (.bin .add 1) [.t 40, .t 43], .m 3 44]) ( .skip)) <| .seq (.reg [.m 45 3, .m 2 45]) <| .ret
theorem Ui : cFn Tryz.prog NQ 46 [.t 2] Fw := ⟨Tryz.f48, _, Tryz.func48, rfl, by kernel_rfl, by kernel_rfl, by kernel_rfl, by kernel_rfl⟩
@[simp] abbrev NR : Nat := 20
def Fx : ACode := .seq (.reg [.o 1 .box [.t 0], .o 2 .mv [.c (.v (.string ⟨#[]⟩))]]) <| .seq (.seq (.reg [.la 4 3 1, .o 5 (.call 62 []) [.t 4], .o 6 (.un .not) [.t 5], .m 7 6, .fg 8 1 1 7 false, .lg 9 8 7 false, .g 10 (.call 63 []) [.t 9, .k 0, .k 99] 7 false, .g 11 (.un .not) [.t 10] 7 false, .o 12 .pick [.t 7, .kb true, .t 11], .m 13 12, .fg 14 0 1 13 false, .lg 15 14 13 false, .g 16 (.bin .eql 0) [.t 15, .k 0] 13 false, .mg 17 16 13 false, .fg 18 2 1 17 true, .lg 19 18 17 true, .g 20 (.call 63 []) [.t 19, .k 1, .k 4] 17 true, .g 21 (.un .not) [.t 20] 17 true, .g 22 .pick [.t 17, .t 21, .kb false] 13 false, .o 23 .pick [.t 13, .kb true, .t 22]]) <| .cond (.t 23) ( .seq (.reg [.o 2 .mv [.c (.v (.string ⟨#[]⟩))]]) <| .ret) ( .skip)) <| .seq (.reg [.o 24 (.load false 1) [.c (.vp 0 [.sl 0 1 [.v (.string ⟨#[108, 97, 121]⟩), .v (.string ⟨#[108, 105, 102, 116]⟩), .v (.string ⟨#[102, 108, 105, 112]⟩), .v (.string ⟨#[102, 111, 114, 99, 101]⟩), .v (.string ⟨#[98, 97, 99, 107]⟩)]] 0)], .f 25 0 1, .l 26 25, .o 27 (.iadr 1) [.t 24, .t 26], .l 28 27, .m 3 28]) <| .seq (.seq (.reg [.f 29 0 1, .l 30 29, .o 31 (.bin .leq 0) [.t 30, .k 2]]) <| .cond (.t 31) ( .reg [.m 32 3, .f 33 1 1, .l 34 33, .o 35 (.call 64 []) [.t 34], .o 36 (.bin .add 1) [.c (.v (.string ⟨#[32]⟩)), .t 35], .o 37 (.bin .add 1) [.t 32, .t 36], .m 3 37]) ( .skip)) <| .seq (.seq (.reg [.f 38 0 1, .l 39 38, .o 40 (.bin .eql 0) [.t 39, .k 0]]) <| .cond (.t 40) ( .reg [.m 41 3, .f 42 2 1, .l 43 42, .f 44 2 1, .l 45 44, .o 46 (.bin .add 0) [.t 45, .k 1], .o 47 (.sslice true true) [.c (.v (.string ⟨#[35, 101, 110, 119, 115]⟩)), .t 43, .t 46], .o 48 (.bin .add 1) [.c (.v (.string ⟨#[32]⟩)), .t 47], .o 49 (.bin .add 1) [.t 41, .t 48], .m 3 49]) ( .skip)) <| .seq (.reg [.m 50 3, .m 2 50]) <| .ret
theorem Uj : cFn Tryz.prog NR 51 [.t 2] Fx := ⟨Tryz.f20, _, Tryz.func20, rfl, by kernel_rfl, by kernel_rfl, by kernel_rfl, by kernel_rfl⟩
@[simp] def mdT (_ : Nat) : List Bool := []
theorem Zg {n : Int} (h : n < 10) : RO n = [b8 (48 + n)] := by simp [RO, h]
theorem jo {n : Int} (h : ¬ n < 10) : RO n = [b8 (48 + n / 10), b8 (48 + n % 10)] := by simp [RO, h]
theorem hG (n : Int) (h0 : 0 ≤ n) (h1 : n < 10) : SoundAt Tryz.prog Iy [.v (.int .i64 n)] (.v (tx (RO n))) [.bot] := by
 refine AE (md := mdT) (ms := [false]) NN (by simp) ?_
 have hn : ¬ n < 0 := by omega
 simp [Iz, hn, h1, Zg h1, b8, eu, u8L]
 omega
theorem Fy (n : Int) (h0 : 0 ≤ n) (h1 : n < 100) : SoundAt Tryz.prog Iy [.v (.int .i64 n)] (.v (tx (RO n))) [.bot] := by
 by_cases h : n < 10
 ·exact hG n h0 h
 refine AE (md := mdT) (ms := [false]) NN (by simp) ?_
 have hn : ¬ n < 0 := by omega
 have c := hG (n / 10) (by omega) (by omega)
 rw [Zg (by omega)] at c
 simp [Iz, hn, h, eu, u8L]
 (repeat' first | omega | apply And.intro) <;>
 ·refine AA c ?_
  simp [h, jo h, b8, eu, u8L]
  try omega
theorem Q3 (d : Int × Int × Int) : SoundAt Tryz.prog Gh [A8 d] (.v (.bool (SO d))) [.bot] := by
 obtain ⟨k, s, w⟩ := d
 refine AE (md := mdT) (ms := [false]) Ku (by simp [A8]) ?_
 by_cases h0 : k = 0 <;> by_cases h1 : k = 1 <;> by_cases h2 : k = 2 <;> by_cases h3 : k = 3 <;> by_cases h4 : k = 4 <;> by_cases hs : s = 0 <;> by_cases hw : w = 0 <;> first | (exfalso; omega) | (simp [Gi, A8, SO, h0, h1, h2, h3, h4, hs, hw])
theorem Sw (d : Int × Int × Int) : SoundAt Tryz.prog Iq [A8 d] (.v (.bool (SO d))) [.bot] := by
 obtain ⟨k, s, w⟩ := d
 refine AE (md := mdT) (ms := [false]) NC (by simp [A8]) ?_
 by_cases h0 : k = 0 <;> by_cases h1 : k = 1 <;> by_cases h2 : k = 2 <;> by_cases h3 : k = 3 <;> by_cases h4 : k = 4 <;> by_cases hs : s = 0 <;> by_cases hw : w = 0 <;> first | (exfalso; omega) | (simp [Ir, A8, SO, h0, h1, h2, h3, h4, hs, hw])
abbrev oe : List UInt8 := [48, 49, 50, 51, 52, 53, 54, 55, 56, 57, 97, 98, 99, 100, 101, 102, 103, 104, 105, 106, 107, 108, 109, 110, 111, 112, 113, 114, 115, 116, 117, 118, 119, 120, 121, 122]
theorem fx : ∀ n : _root_.Fin 10, List.take (n.val + 1 - n.val) (List.drop n.val oe) = RO n.val := by decide +kernel
abbrev oB : List UInt8 := [48, 48, 48, 49, 48, 50, 48, 51, 48, 52, 48, 53, 48, 54, 48, 55, 48, 56, 48, 57, 49, 48, 49, 49, 49, 50, 49, 51, 49, 52, 49, 53, 49, 54, 49, 55, 49, 56, 49, 57, 50, 48, 50, 49, 50, 50, 50, 51, 50, 52, 50, 53, 50, 54, 50, 55, 50, 56, 50, 57, 51, 48, 51, 49, 51, 50, 51, 51, 51, 52, 51, 53, 51, 54, 51, 55, 51, 56, 51, 57, 52, 48, 52, 49, 52, 50, 52, 51, 52, 52, 52, 53, 52, 54, 52, 55, 52, 56, 52, 57, 53, 48, 53, 49, 53, 50, 53, 51, 53, 52, 53, 53, 53, 54, 53, 55, 53, 56, 53, 57, 54, 48, 54, 49, 54, 50, 54, 51, 54, 52, 54, 53, 54, 54, 54, 55, 54, 56, 54, 57, 55, 48, 55, 49, 55, 50, 55, 51, 55, 52, 55, 53, 55, 54, 55, 55, 55, 56, 55, 57, 56, 48, 56, 49, 56, 50, 56, 51, 56, 52, 56, 53, 56, 54, 56, 55, 56, 56, 56, 57, 57, 48, 57, 49, 57, 50, 57, 51, 57, 52, 57, 53, 57, 54, 57, 55, 57, 56, 57, 57]
theorem fy : ∀ n : _root_.Fin 100, (if n.val < 10 then true else decide (List.take (n.val * 2 + 2 - n.val * 2) (List.drop (n.val * 2) oB) = RO n.val)) = true := by decide +kernel
theorem jp (n : Nat) (h1 : n < 100) : SoundAt Tryz.prog Fv [.v (.int .i64 (n : Int))] (.v (tx (RO n))) [.bot] := by
 refine AE (md := mdT) (ms := [false]) LS (by simp) ?_
 by_cases h : n < 10
 ·have e : (n : Int) < 10 := by omega
  have t := fx ⟨n, h⟩
  have e1 : ((n : Int) + 1).toNat = n + 1 := by omega
  simp only at t
  rw [← t]
  have p1 : (0 : Int) ≤ (n : Int) + 1 := by omega
  have p2 : n + 1 ≤ 36 := by omega
  simp [DQ, e, e1, p1, p2]
  omega
 ·have e : ¬ (n : Int) < 10 := by omega
  have t := fy ⟨n, h1⟩
  rw [if_neg h] at t
  have t' := of_decide_eq_true t
  have e1 : ((n : Int) * 2).toNat = n * 2 := by omega
  have e2 : ((n : Int) * 2 + 2).toNat = n * 2 + 2 := by omega
  rw [← t']
  have p1 : (0 : Int) ≤ (n : Int) * 2 + 2 := by omega
  have p0 : (0 : Int) ≤ (n : Int) * 2 := by omega
  have p2 : n * 2 + 2 ≤ 200 := by omega
  simp [DQ, e, e1, e2, p0, p1, p2]
  omega
theorem Zh (n : Nat) (h1 : n < 100) : SoundAt Tryz.prog EH [.v (.int .i64 (n : Int)), .v (.int .i64 10)] (.v (tx (RO n))) [.bot, .bot] := by
 refine AE (md := mdT) (ms := [false, false]) I0 (by simp) ?_
 have e : (n : Int) < 100 := by omega
 have e0 : (0 : Int) ≤ n := by omega
 simp [EI, e, e0]
 refine AA (jp n h1) ?_
 simp
theorem jq (n : Nat) (h1 : n < 100) : SoundAt Tryz.prog GK [.v (.int .i64 (n : Int))] (.v (tx (RO n))) [.bot] := by
 refine AE (md := mdT) (ms := [false]) MJ (by simp) ?_
 simp [GL]
 refine AA (Zh n h1) ?_
 simp
theorem KJ (n : Int) (h0 : 0 ≤ n) (h1 : n < 100) : SoundAt Tryz.prog On [.v (.int .i64 n)] (.v (tx (RO n))) [.bot] := by
 obtain ⟨k, rfl⟩ : ∃ k : Nat, n = k := ⟨n.toNat, by omega⟩
 refine AE (md := mdT) (ms := [false]) Vp (by simp) ?_
 simp [Oo]
 refine AA (jq k (by omega)) ?_
 simp
theorem L3 (w : Int) : SoundAt Tryz.prog L1 [.v (.int .i64 w)] (.v (tx (N6 w))) [.bot] := by
 refine AE (md := mdT) (ms := [false]) Sv (by simp) ?_
 simp [L2]
 refine AA (BP w 1 4) ?_
 by_cases h1 : w = 1
 ·subst h1; simp [N6]
 by_cases h2 : w = 2
 ·subst h2; simp [N6]
 by_cases h3 : w = 3
 ·subst h3; simp [N6]
 by_cases h4 : w = 4
 ·subst h4; simp [N6]
 have h : ¬ (1 ≤ w ∧ w ≤ 4) := by omega
 simp [N6, h1, h2, h3, h4, h]
theorem Nr {d : Int × Int × Int} (h : Ed d = false) : CA d = [] := by simp [CA, h]
theorem Yl {k s w : Int} (h : SO (k, s, w) = true) : k = 0 ∨ k = 1 ∨ k = 2 ∨ k = 3 ∨ k = 4 := by
 simp only [SO] at h
 split at h
 ·left; assumption
 ·split at h
  ·rename_i h2; rcases h2 with h2 | h2 <;> simp [h2]
  ·split at h
   ·rename_i h2; rcases h2 with h2 | h2 <;> simp [h2]
   ·cases h
theorem dw (n : Int) : (RO n).length ≤ 2 := by unfold RO; split <;> simp
theorem jr (n : Int) : (N6 n).length ≤ 1 := by unfold N6; (repeat' split) <;> simp
theorem aW (w : Int) : N6 w = [] ↔ ¬ (1 ≤ w ∧ w ≤ 4) := by
 unfold N6
 by_cases h1 : w = 1
 ·simp [h1]
 by_cases h2 : w = 2
 ·simp [h2]
 by_cases h3 : w = 3
 ·simp [h3]
 by_cases h4 : w = 4
 ·simp [h4]
 simp [h1, h2, h3, h4]
 omega
set_option maxHeartbeats 4000000 in
theorem NS (d : Int × Int × Int) : SoundAt Tryz.prog NQ [A8 d] (.v (tx (CA d))) [.bot] := by
 obtain ⟨k, s, w⟩ := d
 have nd := Sw (k, s, w)
 simp only [A8] at nd
 have li := BP s 0 99
 have le := L3 w
 refine AE (md := mdT) (ms := [false]) Ui (by simp [A8]) ?_
 cases hn : SO (k, s, w) with
 | false =>
   rw [hn] at nd
   rw [Nr (by simp [Ed, hn])]
   simp [Fw, A8]
   refine AA nd ?_
   simp
 | true =>
 rw [hn] at nd
 by_cases hs : 0 ≤ s ∧ s ≤ 99
 case neg =>
  rw [Nr (by simp [Ed, hs])]
  simp [Fw, A8]
  refine AA nd ?_
  simp
  refine AA li ?_
  simp [hs]
 have nu := Fy s hs.1 (by omega)
 have n2 := dw s
 have l1 := jr w
 have lk := Yl hn
 simp [Fw, A8]
 refine AA nd ?_
 simp
 refine AA li ?_
 simp [hs]
 rcases lk with rfl | rfl | rfl | rfl | rfl
 ·simp
  refine AA nu ?_
  simp
  refine ⟨by omega, ?_⟩
  refine AA le ?_
  by_cases hw : 1 ≤ w ∧ w ≤ 4
  ·have hne : N6 w ≠ [] := by rw [Ne, aW]; simpa using hw
   have e : CA (0, s, w) = Ch 0 ++ (32 :: RO s ++ 32 :: N6 w) := by simp [CA, Ed, hn, hs, hw]
   rw [e]
   simp [hne]
   refine ⟨by omega, ?_⟩
   refine AA le ?_
   simp [Ch]
   omega
  ·have hne : N6 w = [] := by rw [aW]; exact hw
   rw [Nr (by simp [Ed, hw])]
   simp [hne]
 all_goals
  have e := hn
  simp [SO] at e
 ·have e' : CA (1, s, w) = Ch 1 ++ 32 :: RO s := by simp [CA, Ed, hn, hs]
  rw [e']
  simp
  refine AA nu ?_
  simp [Ch]
  omega
 ·have e' : CA (2, s, w) = Ch 2 ++ 32 :: RO s := by simp [CA, Ed, hn, hs]
  rw [e']
  simp
  refine AA nu ?_
  simp [Ch]
  omega
 ·have e' : CA (3, s, w) = Ch 3 := by simp [CA, Ed, hn, hs]
  rw [e']
  simp [Ch]
 ·have e' : CA (4, s, w) = Ch 4 := by simp [CA, Ed, hn, hs]
  rw [e']
  simp [Ch]
set_option maxHeartbeats 4000000 in
theorem NT (d : Int × Int × Int) : SoundAt Tryz.prog NR [A8 d] (.v (tx (CA d))) [.bot] := by
 obtain ⟨k, s, w⟩ := d
 have nd := Q3 (k, s, w)
 simp only [A8] at nd
 have li := KW s 0 99
 have lw := KW w 1 4
 refine AE (md := mdT) (ms := [false]) Uj (by simp [A8]) ?_
 cases hn : SO (k, s, w) with
 | false =>
   rw [hn] at nd
   rw [Nr (by simp [Ed, hn])]
   simp [Fx, A8]
   refine AA nd ?_
   simp
 | true =>
 rw [hn] at nd
 by_cases hs : 0 ≤ s ∧ s ≤ 99
 case neg =>
  rw [Nr (by simp [Ed, hs])]
  simp [Fx, A8]
  refine AA nd ?_
  simp
  refine AA li ?_
  simp [hs]
 have nu := KJ s hs.1 (by omega)
 have n2 := dw s
 have lk := Yl hn
 simp [Fx, A8]
 refine AA nd ?_
 simp
 refine AA li ?_
 simp [hs]
 rcases lk with rfl | rfl | rfl | rfl | rfl
 ·simp [D2]
  refine AA lw ?_
  by_cases hw : 1 ≤ w ∧ w ≤ 4
  ·have e : CA (0, s, w) = Ch 0 ++ (32 :: RO s ++ 32 :: N6 w) := by simp [CA, Ed, hn, hs, hw]
   rw [e]
   have h4 : w = 1 ∨ w = 2 ∨ w = 3 ∨ w = 4 := by omega
   simp [hw, D2]
   refine AA nu ?_
   rcases h4 with rfl | rfl | rfl | rfl <;>
   ·simp [Ch, N6]
    omega
  ·rw [Nr (by simp [Ed, hw])]
   simp [hw]
 all_goals
  have e := hn
  simp [SO] at e
 ·have e' : CA (1, s, w) = Ch 1 ++ 32 :: RO s := by simp [CA, Ed, hn, hs]
  rw [e']
  simp [D2]
  refine AA nu ?_
  simp [Ch]
  omega
 ·have e' : CA (2, s, w) = Ch 2 ++ 32 :: RO s := by simp [CA, Ed, hn, hs]
  rw [e']
  simp [D2]
  refine AA nu ?_
  simp [Ch]
  omega
 ·have e' : CA (3, s, w) = Ch 3 := by simp [CA, Ed, hn, hs]
  rw [e']
  simp [Ch, D2]
 ·have e' : CA (4, s, w) = Ch 4 := by simp [CA, Ed, hn, hs]
  rw [e']
  simp [Ch, D2]
end Go.Proofs.Dev
namespace Go.Proofs
open Go.Shelf
def Tryz.laysC172_ren : Go.Shelf.Ren := ⟨fun | 172 => 114 | 244 => 161 | 245 => 162 | 247 => 215 | 279 => 216 | 280 => 217 | 281 => 218 | 282 => 219 | 287 => 251 | 316 => 252 | 171 => 64 | 205 => 253 | 321 => 276 | 322 => 277 | 243 => 134 | 246 => 187 | 283 => 230 | 284 => 231 | 285 => 232 | 286 => 233 | 129 => 260 | 317 => 259 | 318 => 261 | 319 => 262 | 320 => 263 | 337 => 279 | 338 => 280 | n => n, fun | 9 => 9 | 3 => 3 | 75 => 76 | 76 => 77 | 4 => 4 | 5 => 5 | 167 => 179 | 37 => 22 | 0 => 0 | 85 => 180 | 2 => 2 | 168 => 182 | 53 => 189 | 175 => 212 | 46 => 177 | 210 => 215 | 127 => 123 | 145 => 235 | 143 => 233 | 21 => 21 | 171 => 188 | 173 => 192 | 212 => 220 | 51 => 207 | 20 => 20 | 213 => 221 | 232 => 247 | 233 => 248 | 80 => 79 | n => n, fun | 15 => 2 | 16 => 3 | 17 => 4 | 18 => 7 | 19 => 8 | n => n⟩
theorem Tryz.laysC172 : Go.Proofs.LaysC.n172 Tryz.prog Tryz.laysC172_ren := {
 mixed := by kernel_rfl
 f129 := Tryz.func260.trans (congrArg some (by kernel_rfl))
 f171 := Tryz.func64.trans (congrArg some (by kernel_rfl))
 f172 := Tryz.func114.trans (congrArg some (by kernel_rfl))
 f205 := Tryz.func253.trans (congrArg some (by kernel_rfl))
 f243 := Tryz.func134.trans (congrArg some (by kernel_rfl))
 f244 := Tryz.func161.trans (congrArg some (by kernel_rfl))
 f245 := Tryz.func162.trans (congrArg some (by kernel_rfl))
 f246 := Tryz.func187.trans (congrArg some (by kernel_rfl))
 f247 := Tryz.func215.trans (congrArg some (by kernel_rfl))
 f279 := Tryz.func216.trans (congrArg some (by kernel_rfl))
 f280 := Tryz.func217.trans (congrArg some (by kernel_rfl))
 f281 := Tryz.func218.trans (congrArg some (by kernel_rfl))
 f282 := Tryz.func219.trans (congrArg some (by kernel_rfl))
 f283 := Tryz.func230.trans (congrArg some (by kernel_rfl))
 f284 := Tryz.func231.trans (congrArg some (by kernel_rfl))
 f285 := Tryz.func232.trans (congrArg some (by kernel_rfl))
 f286 := Tryz.func233.trans (congrArg some (by kernel_rfl))
 f287 := Tryz.func251.trans (congrArg some (by kernel_rfl))
 f316 := Tryz.func252.trans (congrArg some (by kernel_rfl))
 f317 := Tryz.func259.trans (congrArg some (by kernel_rfl))
 f318 := Tryz.func261.trans (congrArg some (by kernel_rfl))
 f319 := Tryz.func262.trans (congrArg some (by kernel_rfl))
 f320 := Tryz.func263.trans (congrArg some (by kernel_rfl))
 f321 := Tryz.func276.trans (congrArg some (by kernel_rfl))
 f322 := Tryz.func277.trans (congrArg some (by kernel_rfl))
 f337 := Tryz.func279.trans (congrArg some (by kernel_rfl))
 f338 := Tryz.func280.trans (congrArg some (by kernel_rfl))
 t0 := Tryz.underlying0
 a0 := Tryz.isAgg0
 z0 := Tryz.sizeOf0
 v0 := Tryz.zeroValue0
 t2 := Tryz.underlying2
 a2 := Tryz.isAgg2
 z2 := Tryz.sizeOf2
 v2 := Tryz.zeroValue2
 t3 := Tryz.underlying3
 a3 := Tryz.isAgg3
 z3 := Tryz.sizeOf3
 v3 := Tryz.zeroValue3
 t4 := Tryz.underlying4
 a4 := Tryz.isAgg4
 z4 := Tryz.sizeOf4
 v4 := Tryz.zeroValue4
 t5 := Tryz.underlying5
 a5 := Tryz.isAgg5
 z5 := Tryz.sizeOf5
 v5 := Tryz.zeroValue5
 t9 := Tryz.underlying9
 a9 := Tryz.isAgg9
 z9 := Tryz.sizeOf9
 v9 := Tryz.zeroValue9
 t20 := Tryz.underlying20
 a20 := Tryz.isAgg20
 z20 := Tryz.sizeOf20
 v20 := Tryz.zeroValue20
 t21 := Tryz.underlying21
 a21 := Tryz.isAgg21
 z21 := Tryz.sizeOf21
 v21 := Tryz.zeroValue21
 t37 := Tryz.underlying22
 a37 := Tryz.isAgg22
 z37 := Tryz.sizeOf22
 v37 := Tryz.zeroValue22
 t46 := Tryz.underlying177
 a46 := Tryz.isAgg177
 z46 := Tryz.sizeOf177
 v46 := Tryz.zeroValue177
 t51 := Tryz.underlying207
 a51 := Tryz.isAgg207
 z51 := Tryz.sizeOf207
 v51 := Tryz.zeroValue207
 t53 := Tryz.underlying189
 a53 := Tryz.isAgg189
 z53 := Tryz.sizeOf189
 v53 := Tryz.zeroValue189
 t75 := Tryz.underlying76
 a75 := Tryz.isAgg76
 z75 := Tryz.sizeOf76
 v75 := Tryz.zeroValue76
 t76 := Tryz.underlying77
 a76 := Tryz.isAgg77
 z76 := Tryz.sizeOf77
 v76 := Tryz.zeroValue77
 t85 := Tryz.underlying180
 a85 := Tryz.isAgg180
 z85 := Tryz.sizeOf180
 v85 := Tryz.zeroValue180
 t127 := Tryz.underlying123
 a127 := Tryz.isAgg123
 z127 := Tryz.sizeOf123
 v127 := Tryz.zeroValue123
 t143 := Tryz.underlying233
 a143 := Tryz.isAgg233
 z143 := Tryz.sizeOf233
 v143 := Tryz.zeroValue233
 t145 := Tryz.underlying235
 a145 := Tryz.isAgg235
 z145 := Tryz.sizeOf235
 v145 := Tryz.zeroValue235
 t167 := Tryz.underlying179
 a167 := Tryz.isAgg179
 z167 := Tryz.sizeOf179
 v167 := Tryz.zeroValue179
 t168 := Tryz.underlying182
 a168 := Tryz.isAgg182
 z168 := Tryz.sizeOf182
 v168 := Tryz.zeroValue182
 t171 := Tryz.underlying188
 a171 := Tryz.isAgg188
 z171 := Tryz.sizeOf188
 v171 := Tryz.zeroValue188
 t173 := Tryz.underlying192
 a173 := Tryz.isAgg192
 z173 := Tryz.sizeOf192
 v173 := Tryz.zeroValue192
 t175 := Tryz.underlying212
 a175 := Tryz.isAgg212
 z175 := Tryz.sizeOf212
 v175 := Tryz.zeroValue212
 t210 := Tryz.underlying215
 a210 := Tryz.isAgg215
 z210 := Tryz.sizeOf215
 v210 := Tryz.zeroValue215
 t212 := Tryz.underlying220
 a212 := Tryz.isAgg220
 z212 := Tryz.sizeOf220
 v212 := Tryz.zeroValue220
 t213 := Tryz.underlying221
 a213 := Tryz.isAgg221
 z213 := Tryz.sizeOf221
 t232 := Tryz.underlying247
 a232 := Tryz.isAgg247
 z232 := Tryz.sizeOf247
 v232 := Tryz.zeroValue247
 t233 := Tryz.underlying248
 a233 := Tryz.isAgg248
 z233 := Tryz.sizeOf248
 v233 := Tryz.zeroValue248
 g15 := by kernel_rfl
 g16 := by kernel_rfl
 g17 := by kernel_rfl
 g18 := by kernel_rfl
 g19 := by kernel_rfl
 t80 := Tryz.underlying79
 a80 := Tryz.isAgg79
 z80 := Tryz.sizeOf79
 v80 := Tryz.zeroValue79
 i0 := by kernel_rfl
 i2 := by kernel_rfl
 i3 := by kernel_rfl
 i4 := by kernel_rfl
 i5 := by kernel_rfl
 i9 := by kernel_rfl
 i20 := by kernel_rfl
 i21 := by kernel_rfl
 i37 := by kernel_rfl
 i46 := by kernel_rfl
 i51 := by kernel_rfl
 i53 := by kernel_rfl
 i75 := by kernel_rfl
 i76 := by kernel_rfl
 i80 := by kernel_rfl
 i85 := by kernel_rfl
 i127 := by kernel_rfl
 i143 := by kernel_rfl
 i145 := by kernel_rfl
 i167 := by kernel_rfl
 i168 := by kernel_rfl
 i171 := by kernel_rfl
 i173 := by kernel_rfl
 i175 := by kernel_rfl
 i210 := by kernel_rfl
 i212 := by kernel_rfl
 i232 := by kernel_rfl
 i233 := by kernel_rfl
 m15 := by kernel_rfl
 m16 := by kernel_rfl
 m17 := by kernel_rfl
 m18 := by kernel_rfl
 m19 := by kernel_rfl
 c0 := by kernel_rfl
 c2 := by kernel_rfl
 c3 := by kernel_rfl
 c4 := by kernel_rfl
 c5 := by kernel_rfl
 c9 := by kernel_rfl
 c20 := by kernel_rfl
 c21 := by kernel_rfl
 c37 := by kernel_rfl
 c46 := by kernel_rfl
 c51 := by kernel_rfl
 c53 := by kernel_rfl
 c75 := by kernel_rfl
 c76 := by kernel_rfl
 c80 := by kernel_rfl
 c85 := by kernel_rfl
 c127 := by kernel_rfl
 c143 := by kernel_rfl
 c145 := by kernel_rfl
 c167 := by kernel_rfl
 c168 := by kernel_rfl
 c171 := by kernel_rfl
 c173 := by kernel_rfl
 c175 := by kernel_rfl
 c210 := by kernel_rfl
 c212 := by kernel_rfl
 c213 := by kernel_rfl
 c232 := by kernel_rfl
 c233 := by kernel_rfl }
open Go.RowKit in
theorem Tryz.strconv_Atoi_ok (s : ByteArray) (hmax : s.size ≤ 9223372036854775806) (v : Int) (h : Lib.atoiAll s.data.toList = .ok v) (w : World) :
  Calls Tryz.prog 114 #[.string s] w fun e w' => e = .returned (.tuple #[.int .i64 v, .nilIface]) ∧ (w' = w ∨ ∃ t, w' = Lib.bytesWorld w 5 t) := Any.strconv_Atoi_ok Tryz.laysC172 s hmax v h w
open Go.RowKit in
theorem Tryz.strconv_Atoi_range (s : ByteArray) (hlim : s.size ≤ 281474976710656) (h : Lib.atoiAll s.data.toList = .range) (ev : Value) (w : World) (hv : w.cell? ⟨3, 0, none⟩ = some ev) (hev : ev = .nilIface ∨ ∃ te pe, ev = .iface te pe) :
  Calls Tryz.prog 114 #[.string s] w fun e w' => ∃ N, e = .returned (.tuple #[.int .i64 (Lib.atoiSat s.data.toList), .iface 182 (.pointer (some ⟨N, 0, none⟩))]) ∧ w.heap.size ≤ N ∧ w'.heap[N]? = some (.cells #[.string ⟨#[65, 116, 111, 105]⟩, .string s, ev] 215 (0, 0)) ∧ Below w.heap.size w w' := Any.strconv_Atoi_range Tryz.laysC172 s hlim h ev w hv hev
def Tryz.lays143_ren : Go.Shelf.Ren := ⟨fun | 143 => 115 | 219 => 159 | 217 => 209 | 225 => 210 | 224 => 211 | 267 => 212 | 266 => 246 | 314 => 247 | n => n, fun | 9 => 9 | 3 => 3 | 4 => 4 | 5 => 5 | 46 => 177 | 146 => 208 | 51 => 207 | n => n, fun | 1 => 1 | n => n⟩
theorem Tryz.lays143 : Go.Proofs.Lays.n143 Tryz.prog Tryz.lays143_ren := {
 mixed := by kernel_rfl
 f143 := Tryz.func115.trans (congrArg some (by kernel_rfl))
 f217 := Tryz.func209.trans (congrArg some (by kernel_rfl))
 f219 := Tryz.func159.trans (congrArg some (by kernel_rfl))
 f224 := Tryz.func211.trans (congrArg some (by kernel_rfl))
 f225 := Tryz.func210.trans (congrArg some (by kernel_rfl))
 f266 := Tryz.func246.trans (congrArg some (by kernel_rfl))
 f267 := Tryz.func212.trans (congrArg some (by kernel_rfl))
 f314 := Tryz.func247.trans (congrArg some (by kernel_rfl))
 t3 := Tryz.underlying3
 a3 := Tryz.isAgg3
 z3 := Tryz.sizeOf3
 v3 := Tryz.zeroValue3
 t4 := Tryz.underlying4
 a4 := Tryz.isAgg4
 z4 := Tryz.sizeOf4
 v4 := Tryz.zeroValue4
 t5 := Tryz.underlying5
 a5 := Tryz.isAgg5
 z5 := Tryz.sizeOf5
 v5 := Tryz.zeroValue5
 t9 := Tryz.underlying9
 a9 := Tryz.isAgg9
 z9 := Tryz.sizeOf9
 v9 := Tryz.zeroValue9
 t46 := Tryz.underlying177
 a46 := Tryz.isAgg177
 z46 := Tryz.sizeOf177
 v46 := Tryz.zeroValue177
 t51 := Tryz.underlying207
 a51 := Tryz.isAgg207
 z51 := Tryz.sizeOf207
 v51 := Tryz.zeroValue207
 t146 := Tryz.underlying208
 a146 := Tryz.isAgg208
 z146 := Tryz.sizeOf208
 v146 := Tryz.zeroValue208
 g1 := by kernel_rfl }
open Go.RowKit Go.Lib in
theorem Tryz.strings_Index (s sub : ByteArray) (m : Int) (w : World) (hs : s.size < 4294967281) (hm : w.cell? ⟨1, 0, none⟩ = some (.int .i64 m)) :
  Calls Tryz.prog 115 #[.string s, .string sub] w fun e w' => e = .returned (.int .i64 (Lib.index s.data.toList sub.data.toList)) ∧ w' = w := Any.strings_Index Tryz.lays143 s sub m w hs hm
def Tryz.lays146_ren : Go.Shelf.Ren := ⟨fun | 146 => 112 | 221 => 160 | 268 => 213 | 138 => 214 | 143 => 115 | 195 => 248 | 197 => 249 | 218 => 250 | 219 => 159 | 260 => 275 | 217 => 209 | 225 => 210 | 224 => 211 | 267 => 212 | 266 => 246 | 314 => 247 | n => n, fun | 9 => 9 | 31 => 58 | 3 => 3 | 4 => 4 | 0 => 0 | 105 => 210 | 21 => 21 | 5 => 5 | 46 => 177 | 119 => 242 | 139 => 245 | 138 => 244 | 146 => 208 | 51 => 207 | n => n, fun | 1 => 1 | 3 => 5 | 4 => 6 | n => n⟩
theorem Tryz.lays146 : Go.Proofs.Lays.n146 Tryz.prog Tryz.lays146_ren := {
 mixed := by kernel_rfl
 f138 := Tryz.func214.trans (congrArg some (by kernel_rfl))
 f143 := Tryz.func115.trans (congrArg some (by kernel_rfl))
 f146 := Tryz.func112.trans (congrArg some (by kernel_rfl))
 f195 := Tryz.func248.trans (congrArg some (by kernel_rfl))
 f197 := Tryz.func249.trans (congrArg some (by kernel_rfl))
 f217 := Tryz.func209.trans (congrArg some (by kernel_rfl))
 f218 := Tryz.func250.trans (congrArg some (by kernel_rfl))
 f219 := Tryz.func159.trans (congrArg some (by kernel_rfl))
 f221 := Tryz.func160.trans (congrArg some (by kernel_rfl))
 f224 := Tryz.func211.trans (congrArg some (by kernel_rfl))
 f225 := Tryz.func210.trans (congrArg some (by kernel_rfl))
 f260 := Tryz.func275.trans (congrArg some (by kernel_rfl))
 f266 := Tryz.func246.trans (congrArg some (by kernel_rfl))
 f267 := Tryz.func212.trans (congrArg some (by kernel_rfl))
 f268 := Tryz.func213.trans (congrArg some (by kernel_rfl))
 f314 := Tryz.func247.trans (congrArg some (by kernel_rfl))
 t0 := Tryz.underlying0
 a0 := Tryz.isAgg0
 z0 := Tryz.sizeOf0
 v0 := Tryz.zeroValue0
 t3 := Tryz.underlying3
 a3 := Tryz.isAgg3
 z3 := Tryz.sizeOf3
 v3 := Tryz.zeroValue3
 t4 := Tryz.underlying4
 a4 := Tryz.isAgg4
 z4 := Tryz.sizeOf4
 v4 := Tryz.zeroValue4
 t5 := Tryz.underlying5
 a5 := Tryz.isAgg5
 z5 := Tryz.sizeOf5
 v5 := Tryz.zeroValue5
 t9 := Tryz.underlying9
 a9 := Tryz.isAgg9
 z9 := Tryz.sizeOf9
 v9 := Tryz.zeroValue9
 t21 := Tryz.underlying21
 a21 := Tryz.isAgg21
 z21 := Tryz.sizeOf21
 v21 := Tryz.zeroValue21
 t31 := Tryz.underlying58
 a31 := Tryz.isAgg58
 z31 := Tryz.sizeOf58
 v31 := Tryz.zeroValue58
 t46 := Tryz.underlying177
 a46 := Tryz.isAgg177
 z46 := Tryz.sizeOf177
 v46 := Tryz.zeroValue177
 t51 := Tryz.underlying207
 a51 := Tryz.isAgg207
 z51 := Tryz.sizeOf207
 v51 := Tryz.zeroValue207
 t105 := Tryz.underlying210
 a105 := Tryz.isAgg210
 z105 := Tryz.sizeOf210
 v105 := Tryz.zeroValue210
 t119 := Tryz.underlying242
 a119 := Tryz.isAgg242
 z119 := Tryz.sizeOf242
 t138 := Tryz.underlying244
 a138 := Tryz.isAgg244
 z138 := Tryz.sizeOf244
 v138 := Tryz.zeroValue244
 t139 := Tryz.underlying245
 a139 := Tryz.isAgg245
 z139 := Tryz.sizeOf245
 v139 := Tryz.zeroValue245
 t146 := Tryz.underlying208
 a146 := Tryz.isAgg208
 z146 := Tryz.sizeOf208
 v146 := Tryz.zeroValue208
 g1 := by kernel_rfl
 g3 := by kernel_rfl
 g4 := by kernel_rfl }
open Go.RowKit Go.Lib in
theorem Tryz.strings_Split (s sep : ByteArray) (m : Int) (w : World) (hs : s.size < 4294967281) (hm : w.cell? ⟨1, 0, none⟩ = some (.int .i64 m)) (h1 : 1 ≤ sep.size) :
  Calls Tryz.prog 112 #[.string s, .string sep] w fun e w' =>
   e = .returned (.slice (some ⟨w.heap.size, 0, none⟩) (Lib.countB s sep + 1) (Lib.countB s sep + 1)) ∧ w' = w.alloc (.cells ((Lib.splitB sep 0 (Lib.countB s sep) s).map Value.string).toArray 9) := Any.strings_Split Tryz.lays146 (by kernel_rfl) s sep m w hs hm h1
end Go.Proofs
namespace Go.Proofs.Dev
open Go.RowKit
theorem Uk {w : World} {S : List Nat} {forb : Nat → Prop} (h : GB w S forb) : ∃ m : Int, w.cell? ⟨1, 0, none⟩ = some (.int .i64 m) := by
 obtain ⟨u, h1, m, rfl⟩ := h.cell (g := 1) (p := oN) (by simp [gps])
 exact ⟨m, h1⟩
theorem Ul (s t : List UInt8) (hs : s.length < 2 ^ 30) : SoundAt Tryz.prog 115 [.v (tx s), .v (tx t)] (.v (.int .i64 (Go.Lib.index s t))) [.bot, .bot] := by
 refine cw (xs := [tx s, tx t]) fun w S forb hg => ?_
 obtain ⟨m, hm⟩ := Uk hg
 refine (Tryz.strings_Index ⟨s.toArray⟩ ⟨t.toArray⟩ m w (by simp; omega) hm).mono ?_
 rintro e w' ⟨rfl, rfl⟩
 exact ⟨_, [], rfl, by rw [R]; exact ⟨rfl, rfl⟩, by simp, by simp, Kept.refl _ _ _⟩
theorem Um (s : List UInt8) (c : UInt8) (hs : s.length < 2 ^ 30) : SoundAt Tryz.prog 112 [.v (tx s), .v (tx [c])] (.os 1 (txs (Db c s))) [.bot, .bot] := by
 refine cw (xs := [tx s, tx [c]]) fun w S forb hg => ?_
 obtain ⟨m, hm⟩ := Uk hg
 refine (Tryz.strings_Split ⟨s.toArray⟩ ⟨[c].toArray⟩ m w (by simp; omega) hm (by simp)).mono ?_
 rintro e w' ⟨rfl, rfl⟩
 have hb := bM c s
 have hl := Go.Lib.splitB_all ⟨[c].toArray⟩ (by simp) 0 _ ⟨s.toArray⟩ rfl
 have hlen : Go.Lib.countB ⟨s.toArray⟩ ⟨[c].toArray⟩ + 1 = (Db c s).length := by
  have := congrArg List.length hb
  simp only [List.length_map] at this
  rw [← this, hl]
 rw [hb, hlen]
 have hcell : ∀ j u, ((Db c s).map tx)[j]? = some u → (w.alloc (.cells ((Db c s).map tx).toArray 9)).cell? ⟨w.heap.size, 0 + j, none⟩ = some u := by
  intro j u hj
  have e : (w.alloc (.cells ((Db c s).map tx).toArray 9)).heap[w.heap.size]? = some (.cells ((Db c s).map tx).toArray 9) := by
   show (w.heap.push _)[w.heap.size]? = _
   simp
  simp only [World.cell?, e, Nat.zero_add]
  simpa using hj
 refine ⟨_, [w.heap.size], rfl, ?_, by simp, ?_, ?_⟩
 ·rw [R]
  refine ⟨some ⟨w.heap.size, 0, none⟩, (Db c s).length, by rw [Ni], by rw [Ni]; exact Nat.le_refl _, ?_⟩
  right
  refine ⟨by omega, w.heap.size, 0, (Db c s).map tx, [], rfl, rfl, ?_, ?_, hcell, Td _, by rw [MQ]; exact aC _ _⟩
  ·show w.heap.size < (w.heap.push _).size
   simp
  ·intro j hj
   have hj' : j < (Db c s).length := by omega
   refine ⟨⟨tx (Db c s)[j], hcell j _ (by simp [hj'])⟩, ?_⟩
   have e : (w.alloc (.cells ((Db c s).map tx).toArray 9)).heap[w.heap.size]? = some (.cells ((Db c s).map tx).toArray 9) := by
    show (w.heap.push _)[w.heap.size]? = _
    simp
   show (w.alloc (.cells ((Db c s).map tx).toArray 9)).frozen? ⟨w.heap.size, 0 + j, none⟩ = false
   simp only [World.frozen?, e]
   simp
 ·intro x hx
  simp at hx
  subst hx
  exact ⟨by show w.heap.size < (w.heap.push _).size; simp, Nat.le_refl _⟩
 ·exact ⟨rfl, rfl, rfl, by show w.heap.size ≤ (w.heap.push _).size; simp, fun k hk _ => K5 w _ k hk, fun _ _ _ h => Vu h⟩
theorem hO {c : UInt8} : ∀ {l : List UInt8}, (∀ j : Nat, l[j]? ≠ some c) → Db c l = [l]
 | [], _ => rfl
 | x :: l, h => by
   have h0 : x ≠ c := by have := h 0; simpa using this
   rw [Db, if_neg h0, hO (l := l) (fun j => by have := h (j + 1); simpa using this)]
theorem hY {c : UInt8} : ∀ {l : List UInt8} {i : Nat}, l[i]? = some c → (∀ j : Nat, j < i → l[j]? ≠ some c) → Db c l = l.take i :: Db c (l.drop (i + 1))
 | [], i, h, _ => by simp at h
 | x :: l, 0, h, _ => by
   have : x = c := by simpa using h
   rw [Db, if_pos this]; simp
 | x :: l, i + 1, h, h2 => by
   have h0 : x ≠ c := by have := h2 0 (by omega); simpa using this
   rw [Db, if_neg h0, hY (l := l) (i := i) (by simpa using h) (fun j hj => by have := h2 (j + 1) (by omega); simpa using this)]
   simp
theorem Zi (c : UInt8) : ∀ s : List UInt8, (Db c s).length ≤ s.length + 1
 | [] => by simp [Db]
 | x :: s => by
   have := Zi c s
   rw [Db]
   split
   ·simp; omega
   ·obtain ⟨p, ps, h⟩ := MS c s
    rw [h] at this ⊢
    simp at this ⊢; omega
theorem Ym (s : List UInt8) (c : UInt8) (hs : s.length < 2 ^ 30) : SoundAt Tryz.prog SK [.v (tx s), .v (.int .u8 (c.toNat : Int))] (.os 1 (txs (Db c s))) [.bot, .bot] := by
 refine AE (md := mdT) (ms := [false, false]) Yk (by simp) ?_
 simp [SL]
 refine AF (fun m E H => ∃ (k f : Nat) (done : List (List UInt8)), m = s.length - k ∧ f ≤ k ∧ k ≤ s.length ∧ (∀ j : Nat, f ≤ j → j < k → s[j]? ≠ some c) ∧ done ++ Db c (s.drop f) = Db c s ∧ done.length ≤ k ∧ H = [some (.arr 1 (txs done))] ∧
  E = [(0, .v (tx s)), (1, .v (.int .u8 (c.toNat : Int))), (5, .ls 1 0 0 done.length), (6, .v (.int .i64 (f : Int))), (7, .v (.int .i64 (k : Int)))]) s.length ⟨0, 0, [], by simp⟩ ?_
 rintro J hJ m E H ⟨k, f, done, rfl, hf, hk, hno, hc, hd, rfl, rfl⟩
 by_cases h : k < s.length
 ·by_cases he : s[k]? = some c
  ·have he' : s[k] = c := by rw [List.getElem?_eq_getElem h] at he; simpa using he
   have hcut : Db c (s.drop f) = (s.drop f).take (k - f) :: Db c (s.drop (k + 1)) := by
    rw [hY (i := k - f) (by rw [List.getElem?_drop, show f + (k - f) = k by omega]; exact he) (fun j hj => by rw [List.getElem?_drop]; exact hno _ (by omega) (by omega))]
    rw [List.drop_drop, show f + (k - f + 1) = k + 1 by omega]
   have nx := hJ (s.length - (k + 1)) [(0, .v (tx s)), (1, .v (.int .u8 (c.toNat : Int))), (5, .ls 1 0 0 (done.length + 1)), (6, .v (.int .i64 ((k : Int) + 1))), (7, .v (.int .i64 ((k : Int) + 1)))] [some (.arr 1 (txs done ++ [.v (tx ((s.drop f).take (k - f)))]))]
    ⟨k + 1, k + 1, done ++ [(s.drop f).take (k - f)], rfl, by omega, by omega, fun j h1 h2 => by omega, by rw [List.append_assoc, ← hc, hcut]; rfl, by simp; omega, by rw [Nj]; rfl, by simp⟩
   simp [Fu, h, he']
   exact ⟨⟨by omega, by omega⟩, ⟨by omega, by omega⟩, ⟨by omega, by omega⟩, _, by omega, nx⟩
  ·have he' : ¬ s[k] = c := by rw [List.getElem?_eq_getElem h] at he; simpa using he
   have nx := hJ (s.length - (k + 1)) [(0, .v (tx s)), (1, .v (.int .u8 (c.toNat : Int))), (5, .ls 1 0 0 done.length), (6, .v (.int .i64 (f : Int))), (7, .v (.int .i64 ((k : Int) + 1)))] [some (.arr 1 (txs done))]
    ⟨k + 1, f, done, rfl, by omega, by omega, fun j h1 h2 => by
     by_cases hj : j = k
     ·subst hj; exact he
     ·exact hno j h1 (by omega), hc, by omega, rfl, by simp⟩
   simp [Fu, h, he']
   exact ⟨⟨by omega, by omega⟩, _, by omega, nx⟩
 ·have hk' : k = s.length := by omega
  subst hk'
  have hcut : Db c (s.drop f) = [s.drop f] := by
   refine hO fun j hj => ?_
   rw [List.getElem?_drop] at hj
   have : f + j < s.length := (List.getElem?_eq_some_iff.1 hj).1
   exact hno _ (by omega) this hj
  rw [← hc, hcut, Nj, ZC]
  simp [Fu]
  refine ⟨by omega, ⟨by omega, by omega⟩, ?_⟩
  rw [List.take_of_length_le (by simp), List.take_of_length_le (l := s.drop f) (by simp)]
theorem dy {s : List UInt8} {k : Nat} (n : Int) (h : k < s.length) : Tg n (s.drop k) = if 48 ≤ s[k].toNat ∧ s[k].toNat ≤ 57 then Tg (10 * n + ((s[k].toNat : Int) - 48)) (s.drop (k + 1)) else none := by
 rw [List.drop_eq_getElem_cons h, Tg]
set_option maxHeartbeats 1000000 in
theorem Un (p : List UInt8) (hp : p.length < 2 ^ 30) : SoundAt Tryz.prog NO [.v (tx p)] (.v (.int .i64 (bm p))) [.bot] := by
 refine AE (md := mdT) (ms := [false]) Uh (by simp) ?_
 simp [NP]
 refine AA (BP (p.length : Int) 1 4) ?_
 by_cases h0 : p.length = 0
 ·have e : ¬ (1 ≤ (p.length : Int) ∧ (p.length : Int) ≤ 4) := by omega
  simp [bm, h0]
 by_cases h4 : 4 < p.length
 ·have e : ¬ (1 ≤ (p.length : Int) ∧ (p.length : Int) ≤ 4) := by omega
  simp [bm, h4, e]
 have e : (1 ≤ (p.length : Int) ∧ (p.length : Int) ≤ 4) := by omega
 have hl : 0 < p.length := by omega
 have hhead : p.head? = some p[0] := by rw [List.head?_eq_getElem?, List.getElem?_eq_getElem hl]
 have c48 : ((p[0].toNat : Int) = 48) ↔ p[0] = 48 := by
  have := lx p[0] 48
  simpa using this
 have loop : ∀ Qc : AExit → ES → AH → Prop, (∀ E n, get E 2 = .v (.int .i64 0) ∨ True → get E 3 = .v (.int .i64 n) → Tg 0 p = some n → Qc (.exit 0) E []) → (∀ E, get E 2 = .v (.int .i64 (-1)) → Tg 0 p = none → Qc .ret E []) →
   EO [] [0, 3, 4] (awp Tryz.prog mdT Bh) Qc [(0, .v (tx p)), (3, .v (.int .i64 0)), (4, .v (.int .i64 0))] [] := by
  intro Qc q1 q2
  refine AF (fun m E H => ∃ (k : Nat) (n : Int), m = p.length - k ∧ k ≤ p.length ∧ 0 ≤ n ∧ n < 10 ^ k ∧ Tg n (p.drop k) = Tg 0 p ∧ H = [] ∧ E = [(0, .v (tx p)), (3, .v (.int .i64 n)), (4, .v (.int .i64 (k : Int)))]) p.length ⟨0, 0, by simp⟩ ?_
  rintro J hJ m E H ⟨k, n, rfl, hk, hn0, hn, hd, rfl, rfl⟩
  have h10 : (10 : Int) ^ k ≤ 10000 := by
   have : k = 0 ∨ k = 1 ∨ k = 2 ∨ k = 3 ∨ k = 4 := by omega
   rcases this with rfl | rfl | rfl | rfl | rfl <;> decide
  by_cases h : k < p.length
  ·rw [dy n h] at hd
   by_cases hc : 48 ≤ p[k].toNat ∧ p[k].toNat ≤ 57
   ·rw [if_pos hc] at hd
    have a1 : ¬ ((p[k].toNat : Int) < 48) := by omega
    have a2 : ¬ ((57 : Int) < (p[k].toNat : Int)) := by omega
    have nx := hJ (p.length - (k + 1)) [(0, .v (tx p)), (3, .v (.int .i64 (10 * n + ((p[k].toNat : Int) - 48)))), (4, .v (.int .i64 ((k : Int) + 1)))] []
     ⟨k + 1, 10 * n + ((p[k].toNat : Int) - 48), rfl, by omega, by omega, by rw [Int.pow_succ]; omega, hd, rfl, by simp⟩
    simp [Bh, h, a1, a2]
    have hb : (p[k].toNat : Int) ≤ 57 := by omega
    have hb0 : (48 : Int) ≤ (p[k].toNat : Int) := by omega
    exact ⟨⟨by omega, by omega⟩, ⟨by omega, by omega⟩, ⟨by omega, by omega⟩, ⟨by omega, by omega⟩, ⟨by omega, by omega⟩, _, by omega, nx⟩
   ·rw [if_neg hc] at hd
    by_cases a1 : (p[k].toNat : Int) < 48
    ·simp [Bh, h, a1]
     exact q2 _ rfl hd.symm
    ·have a2 : (57 : Int) < (p[k].toNat : Int) := by omega
     simp [Bh, h, a1, a2]
     exact q2 _ rfl hd.symm
  ·have hk' : k = p.length := by omega
   subst hk'
   rw [List.drop_length] at hd
   simp [Bh]
   exact q1 _ n (.inr trivial) rfl hd.symm
 by_cases h1 : 1 < p.length
 ·by_cases hz : p[0] = 48
  ·have hg : (1 : Int) < (p.length : Int) := by omega
   simp [bm, h0, h4, e, h1, hg, hl, hhead, hz]
  ·have hg : (1 : Int) < (p.length : Int) := by omega
   have ed : bm p = (Tg 0 p).getD (-1) := by
    unfold bm
    rw [if_neg]
    rintro (h | h | ⟨_, h⟩)
    ·exact h0 h
    ·exact h4 h
    ·rw [hhead] at h; exact hz (by simpa using h)
   rw [ed]
   have c48' : ¬ ((p[0].toNat : Int) = 48) := fun h => hz (c48.1 h)
   simp [e, h1, hg, hz, hl, c48']
   refine loop _ ?_ ?_
   ·intro E n _ h3 hd
    simp [h3, hd]
   ·intro E h2 hd
    simp [h2, hd]
 ·have ed : bm p = (Tg 0 p).getD (-1) := by
   unfold bm
   rw [if_neg]
   rintro (h | h | ⟨h, _⟩)
   ·exact h0 h
   ·exact h4 h
   ·exact h1 h
  rw [ed]
  have hg : ¬ (1 : Int) < (p.length : Int) := by omega
  simp [e, h1, hg]
  refine loop _ ?_ ?_
  ·intro E n _ h3 hd
   simp [h3, hd]
  ·intro E h2 hd
   simp [h2, hd]
end Go.Proofs.Dev
