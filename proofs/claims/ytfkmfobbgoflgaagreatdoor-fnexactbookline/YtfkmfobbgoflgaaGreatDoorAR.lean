/- Contracts of the functions of the program over slots and rows, each proved against the program itself; no condition beyond those that each theorem names. -/
import Derived.Test.YtfkmfobbgoflgaaGreatDoorAK
import Derived.Test.YtfkmfobbgoflgaaGreatDoorAO
import Derived.Test.YtfkmfobbgoflgaaGreatDoorAQ
import Derived.Test.YtfkmfobbgoflgaaGreatDoorAL
import Derived.Test.YtfkmfobbgoflgaaGreatDoorAI
import Derived.Test.YtfkmfobbgoflgaaGreatDoorProg
import Derived.Test.YtfkmfobbgoflgaaGreatDoorAP
set_option linter.unusedSimpArgs false
set_option linter.unusedVariables false
set_option maxRecDepth 100000
namespace Go.Proofs.Dev
theorem LM (W T : Int) (cs : List Bool) (ls : List Int) (hb : cs.length < 2 ^ 40) (hl : ls.length < 2 ^ 40) :
  SoundAt Tryz.prog QX [.agg [.v (.int .i64 W), .v (.int .i64 T), .sl 1 1 (AC cs)], .sl 1 1 (AB ls)] (.v (.bool (A0 W T cs && AO W T cs ls))) [.bot, .bot] := by
 refine AE (md := md0) (ms := [false, false]) XI (by simp) ?_
 simp [QY]
 refine AA (JQ W T cs hb) ?_
 cases hr : A0 W T cs with
 | false => simp
 | true =>
 simp
 refine AA (JS W T cs ls hr hl) ?_
 simp
@[simp] abbrev OY : Nat := 191
def OZ : ACode := .seq (.reg [.o 3 .box [.t 0], .o 6 .mv [.c (.os 1 [])], .o 7 .mv [.kb false]]) <| .seq (.block 0 ( .seq (.reg [.la 9 3 3, .m 10 1, .o 11 (.call 179 []) [.t 9, .t 10], .o 12 (.un .not) [.t 11], .m 8 12]) <| .cond (.t 8) ( .seq (.reg [.o 6 .mv [.c (.os 1 [])], .o 7 .mv [.kb false]]) <| .ret) ( .seq (.reg [.la 14 3 3, .m 15 2, .o 16 (.call 229 []) [.t 14, .t 15], .o 17 (.un .not) [.t 16], .m 18 17, .mg 19 1 18 false, .mg 20 2 18 false, .g 21 (.iadr 1) [.t 19, .t 20] 18 false, .lg 22 21 18 false, .g 23 (.bin .eql 0) [.t 22, .k 0] 18 false, .o 24 .pick [.t 18, .kb true, .t 23], .m 13 24]) <| .cond (.t 13) ( .seq (.reg [.m 25 1, .o 26 (.call 126 []) [.t 25], .m 6 26, .o 7 .mv [.kb false]]) <| .ret) ( .skip)))) <| .seq (.reg [.la 27 3 3, .m 28 1, .m 29 2, .o 30 (.call 236 []) [.t 27, .t 28, .t 29], .m 6 30, .o 7 .mv [.kb true]]) <| .ret
theorem VY : cFn Tryz.prog OY 31 [.t 6, .t 7] OZ := ⟨Tryz.f191, _, Tryz.func191, rfl, by kernel_rfl, by kernel_rfl, by kernel_rfl, by kernel_rfl⟩
@[simp] abbrev Qn : Nat := 190
def Qo : ACode := .seq (.reg [.o 4 .box [.t 0], .o 8 .mv [.c (.os 1 [])], .o 9 .mv [.kb false]]) <| .seq (.block 0 ( .seq (.reg [.la 11 3 4, .m 12 1, .o 13 (.call 179 []) [.t 11, .t 12], .o 14 (.un .not) [.t 13], .m 10 14]) <| .cond (.t 10) ( .seq (.reg [.o 8 .mv [.c (.os 1 [])], .o 9 .mv [.kb false]]) <| .ret) ( .seq (.reg [.la 16 3 4, .m 17 1, .m 18 2, .m 19 3, .o 20 (.call 234 []) [.t 16, .t 17, .t 18, .t 19], .o 21 (.un .not) [.t 20], .m 15 21]) <| .cond (.t 15) ( .seq (.reg [.m 22 1, .o 23 (.call 126 []) [.t 22], .m 8 23, .o 9 .mv [.kb false]]) <| .ret) ( .skip)))) <| .seq (.reg [.la 24 3 4, .m 25 1, .m 26 2, .m 27 3, .o 28 (.call 235 []) [.t 24, .t 25, .t 26, .t 27], .m 8 28, .o 9 .mv [.kb true]]) <| .ret
theorem XU : cFn Tryz.prog Qn 29 [.t 8, .t 9] Qo := ⟨Tryz.f190, _, Tryz.func190, rfl, by kernel_rfl, by kernel_rfl, by kernel_rfl, by kernel_rfl⟩
@[simp] abbrev Jp : Nat := 236
def G9 : ACode := .seq (.reg [.m 22 7, .m 6 22]) <| .ret
abbrev HA : Plan := .al (.o 17 (.call 205 []) [.t 11, .t 12, .t 16]) ( .take (.o 20 (.iadr 1) [.t 10, .t 17]) <| .al (.s (.store 1) [.t 20, .k 0]) ( .take (.o 21 (.iadr 1) [.t 18, .t 19]) <| .al (.s (.store 1) [.t 21, .k 0]) ( .done)))
def Jq : ACode := .seq (.reg [.o 3 .box [.t 0], .o 6 .mv [.c (.os 1 [])]]) <| .seq (.reg [.m 8 1, .o 9 (.call 126 []) [.t 8], .m 7 9]) <| .seq (.draw ( .take (.m 10 7) <| .take (.m 12 2) <| .take (.m 13 1) <| .take (.m 14 2) <| .take (.o 15 (.iadr 1) [.t 13, .t 14]) <| .take (.m 18 7) <| .take (.m 19 2) <| .alt (.la 11 3 3) ( .al (.l 16 15) HA) <| .al (.l 16 15) ( .al (.la 11 3 3) HA))) <| .gc [] [7] G9
theorem Qp : cFn Tryz.prog Jp 23 [.t 6] Jq := ⟨Tryz.f236, _, Tryz.func236, rfl, by kernel_rfl, by kernel_rfl, by kernel_rfl, by kernel_rfl⟩
@[simp] abbrev Gp : Nat := 141
def Kq : ACode := .seq (.reg [.m 40 8, .m 41 2, .o 42 (.iadr 1) [.t 40, .t 41], .s (.store 1) [.t 42, .k 0]]) <| .seq (.reg [.m 43 8, .m 6 43, .o 7 .mv [.kb true]]) <| .ret
abbrev Kr : Plan := .al (.o 38 (.call 169 []) [.t 32, .t 33, .t 37]) ( .take (.o 39 (.iadr 1) [.t 31, .t 38]) <| .al (.s (.store 1) [.t 39, .k 0]) ( .done))
def KG : ACode := .seq (.reg [.o 3 .box [.t 0], .o 6 .mv [.c (.os 1 [])], .o 7 .mv [.kb false]]) <| .seq (.seq (.reg [.la 9 3 3, .m 10 1, .o 11 (.call 122 []) [.t 9, .t 10], .o 12 (.un .not) [.t 11]]) <| .cond (.t 12) ( .seq (.reg [.o 13 (.bsl 1) [], .m 6 13, .o 7 .mv [.kb false]]) <| .ret) ( .skip)) <| .seq (.reg [.o 14 (.bsl 1) [], .m 15 1, .o 16 (.app 1 8 true) [.t 14, .t 15], .m 8 16]) <| .seq (.seq (.reg [.m 17 2, .m 18 1, .n 19 18, .o 20 (.bin .sub 0) [.t 19, .k 1], .o 21 (.call 106 []) [.t 17, .k 0, .t 20], .o 22 (.un .not) [.t 21], .m 23 22, .mg 24 1 23 false, .mg 25 2 23 false, .g 26 (.iadr 1) [.t 24, .t 25] 23 false, .lg 27 26 23 false, .g 28 (.bin .eql 0) [.t 27, .k 0] 23 false, .o 29 .pick [.t 23, .kb true, .t 28]]) <| .cond (.t 29) ( .seq (.reg [.m 30 8, .m 6 30, .o 7 .mv [.kb false]]) <| .ret) ( .skip)) <| .seq (.draw ( .take (.m 31 8) <| .take (.m 33 2) <| .take (.m 34 1) <| .take (.m 35 2) <| .take (.o 36 (.iadr 1) [.t 34, .t 35]) <| .alt (.la 32 3 3) ( .al (.l 37 36) Kr) <| .al (.l 37 36) ( .al (.la 32 3 3) Kr))) <| .gc [] [2, 8] Kq
theorem Oa : cFn Tryz.prog Gp 44 [.t 6, .t 7] KG := ⟨Tryz.f141, _, Tryz.func141, rfl, by kernel_rfl, by kernel_rfl, by kernel_rfl, by kernel_rfl⟩
def jh (W T : Int) (cs : List Bool) (ls : List Int) (cell way : Int) : List Int := if (A0 W T cs && AO W T cs ls) = true then CB W T cs ls cell way else []
def Zb (W T : Int) (cs : List Bool) (ls : List Int) (cell way : Int) : Bool := A0 W T cs && AO W T cs ls && BU W T cs ls cell way
theorem XV (W T : Int) (cs : List Bool) (ls : List Int) (cell way : Int) (hb : cs.length < 2 ^ 40) (hl : ls.length < 2 ^ 40) :
  SoundAt Tryz.prog Qn [.agg [.v (.int .i64 W), .v (.int .i64 T), .sl 1 1 (AC cs)], .sl 1 1 (AB ls), .v (.int .i64 cell), .v (.int .i64 way)]
   (.tup [.os 1 (AB (jh W T cs ls cell way)), .v (.bool (Zb W T cs ls cell way))]) [.bot, .bot, .bot, .bot] := by
 refine AE (md := md0) (ms := [false, false, false, false]) XU (by simp) ?_
 simp [Qo]
 refine AA (LM W T cs ls hb hl) ?_
 cases hp : (A0 W T cs && AO W T cs ls) with
 | false =>
   have e1 : jh W T cs ls cell way = [] := by unfold jh; rw [hp]; rfl
   have e2 : Zb W T cs ls cell way = false := by unfold Zb; rw [hp]; rfl
   rw [e1, e2]; simp
 | true =>
 have e1 : jh W T cs ls cell way = CB W T cs ls cell way := by unfold jh; rw [hp]; rfl
 have e2 : Zb W T cs ls cell way = BU W T cs ls cell way := by unfold Zb; rw [hp]; rfl
 rw [e1, e2]
 have h2 := hp
 simp only [AO, Bool.and_eq_true, decide_eq_true_eq] at h2
 simp
 refine AA (Dm W T cs ls cell way h2.1 h2.2.1) ?_
 cases hf : BU W T cs ls cell way with
 | false =>
   simp [CB, hf]
   refine AA (Ag ls hl) ?_
   simp
 | true =>
   simp [CB, hf]
   refine AA (Cz W T cs ls cell way h2.1 h2.2.1 hf) ?_
   simp
def Ei (ls : List Int) (cell : Int) : Bool := decide (0 ≤ cell ∧ cell < ls.length ∧ ati ls cell ≠ 0)
def Sl (W T : Int) (cs : List Bool) (ls : List Int) (cell : Int) : List Int := if (A0 W T cs && AO W T cs ls) = true then (if Ei ls cell = true then LL W T ls cell else ls) else []
def Lw (W T : Int) (cs : List Bool) (ls : List Int) (cell : Int) : Bool := A0 W T cs && AO W T cs ls && Ei ls cell
theorem Qq (W T : Int) (cs : List Bool) (ls : List Int) (k : Nat) (hr : A0 W T cs = true) (hy : AO W T cs ls = true) (hk : k < ls.length) (hv : ati ls k ≠ 0) :
  SoundAt Tryz.prog Jp [.agg [.v (.int .i64 W), .v (.int .i64 T), .sl 1 1 (AC cs)], .sl 1 1 (AB ls), .v (.int .i64 k)] (.os 1 (AB (LL W T ls k))) [.bot, .bot, .bot] := by
 refine AE (md := md0) (ms := [false, false, false]) Qp (by simp) ?_
 have h36 := AZ hr
 have hl := Ap hy
 obtain ⟨t, e, ht, htk, _⟩ := XT hr hy hk hv
 have eL : LL W T ls k = (ls.set t 0).set k 0 := by unfold LL; rw [e]; simp
 rw [eL]
 simp [Jq]
 refine AA (Ag ls (by omega)) ?_
 have one := CQ W T cs k (ati ls k) hr (by omega) (by omega)
 rw [e] at one
 simp [hk]
 (repeat' first | assumption | omega | apply And.intro) <;>
 ·refine AA one ?_
  have htk2 : (AB ((ls.set t 0).set k 0)).take ls.length = AB ((ls.set t 0).set k 0) := List.take_of_length_le (by simp)
  simp [ht, hk, EP, G9, htk2]
theorem VZ (W T : Int) (cs : List Bool) (ls : List Int) (cell : Int) (hb : cs.length < 2 ^ 40) (hl : ls.length < 2 ^ 40) :
  SoundAt Tryz.prog OY [.agg [.v (.int .i64 W), .v (.int .i64 T), .sl 1 1 (AC cs)], .sl 1 1 (AB ls), .v (.int .i64 cell)]
   (.tup [.os 1 (AB (Sl W T cs ls cell)), .v (.bool (Lw W T cs ls cell))]) [.bot, .bot, .bot] := by
 refine AE (md := md0) (ms := [false, false, false]) VY (by simp) ?_
 simp [OZ]
 refine AA (LM W T cs ls hb hl) ?_
 cases hp : (A0 W T cs && AO W T cs ls) with
 | false =>
   have e1 : Sl W T cs ls cell = [] := by unfold Sl; rw [hp]; rfl
   have e2 : Lw W T cs ls cell = false := by unfold Lw; rw [hp]; rfl
   rw [e1, e2]; simp
 | true =>
 have e1 : Sl W T cs ls cell = if Ei ls cell = true then LL W T ls cell else ls := by unfold Sl; rw [hp]; rfl
 have e2 : Lw W T cs ls cell = Ei ls cell := by unfold Lw; rw [hp]; rfl
 rw [e1, e2]
 have h2 := hp
 simp only [Bool.and_eq_true] at h2
 have hlc := Ap h2.2
 simp
 refine AA (GU W T cs cell hb) ?_
 by_cases hc : 0 ≤ cell ∧ cell < cs.length
 case neg =>
  have hc2 : Ei ls cell = false := decide_eq_false (fun x => hc ⟨x.1, by omega⟩)
  simp [hc, hc2]
  refine AA (Ag ls hl) ?_
  simp
 obtain ⟨k, rfl⟩ : ∃ k : Nat, cell = k := ⟨cell.toNat, by omega⟩
 have hk : k < ls.length := by omega
 have hk2 : k < cs.length := by omega
 by_cases hz : ati ls k = 0
 ·have hc2 : Ei ls k = false := decide_eq_false (fun x => x.2.2 hz)
  simp [hk, hk2, hz, hc2]
  refine AA (Ag ls hl) ?_
  simp
 ·have hc2 : Ei ls k = true := decide_eq_true ⟨by omega, by omega, hz⟩
  simp [hk, hk2, hz, hc2]
  refine AA (Qq W T cs ls k h2.1 h2.2 hk hz) ?_
  simp
end Go.Proofs.Dev
