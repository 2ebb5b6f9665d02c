/- Contracts of the functions of the program over slots and rows, each proved against the program itself; no condition beyond those that each theorem names. -/
import Derived.Test.YtfkmfobbgoflgaaGreatDoorAO
import Derived.Test.YtfkmfobbgoflgaaGreatDoorProg
import Derived.Test.YtfkmfobbgoflgaaGreatDoorAH
set_option linter.unusedSimpArgs false
set_option linter.unusedVariables false
set_option maxRecDepth 100000
namespace Go.Proofs.Dev
def LX (x : Int) : Bool := decide (x = 1) || decide (x = 2)
def Ie (ls : List Int) : Nat := ls.countP LX
theorem TM {ls : List Int} {i : Nat} (h : i < ls.length) : Ie (ls.take (i + 1)) = Ie (ls.take i) + (if LX (ati ls i) then 1 else 0) := by
 have e : ati ls i = ls[i] := by simp [ati, h]
 rw [e, List.take_succ_eq_append_getElem h, Ie, List.countP_append, List.countP_singleton]
 rfl
theorem WE (ls : List Int) : Ie ls ≤ ls.length := List.countP_le_length
theorem Ri (W T : Int) (cs : List Bool) (hb : cs.length < 2 ^ 40) :
  SoundAt Tryz.prog LA [.agg [.v (.int .i64 W), .v (.int .i64 T), .sl 1 1 (AC cs)]] (.v (.int .i64 (if Az W T cs then Bg cs else -1))) [.bot] := by
 refine AE (md := md0) (ms := [false]) Rf (by simp) ?_
 simp [LB]
 refine AA (BG W T cs hb) ?_
 cases hr : Az W T cs with
 | false => simp
 | true =>
 simp
 refine AA (NP cs hb) ?_
 simp
theorem H5 (W T : Int) (cs : List Bool) (ls : List Int) (hb : cs.length < 2 ^ 40) (hl : ls.length < 2 ^ 40) :
  SoundAt Tryz.prog MD [.agg [.v (.int .i64 W), .v (.int .i64 T), .sl 1 1 (AC cs)], .sl 1 1 (AB ls)] (.v (.int .i64 (if Az W T cs && AO W T cs ls then (Ie ls : Int) else -1))) [.bot, .bot] := by
 refine AE (md := md0) (ms := [false, false]) TJ (by simp) ?_
 simp [ME]
 refine AA (BV W T cs ls hb hl) ?_
 cases hr : (Az W T cs && AO W T cs ls) with
 | false =>
   have : ¬ (Az W T cs = true ∧ AO W T cs ls = true) := by simpa using hr
   simp [this]
 | true =>
 have : Az W T cs = true ∧ AO W T cs ls = true := by simpa using hr
 simp [this]
 refine AF (fun m E H => ∃ i : Nat, m = ls.length - i ∧ i ≤ ls.length ∧ H = [] ∧ E = [(1, .sl 1 1 (AB ls)), (5, .v (.int .i64 (Ie (ls.take i)))), (6, .v (.int .i64 i))]) ls.length ⟨0, by simp [Ie]⟩ ?_
 rintro J hJ m E H ⟨i, rfl, hi, rfl, rfl⟩
 by_cases h : i < ls.length
 case neg =>
  have : i = ls.length := by omega
  subst this
  simp [CX]
 have hs := TM h
 have hle : Ie (ls.take i) ≤ i := by have := WE (ls.take i); simp at this; omega
 have next : ∀ v : Int, v = Ie (ls.take (i + 1)) → Cz J (ls.length - i) [(1, .sl 1 1 (AB ls)), (5, .v (.int .i64 v)), (6, .v (.int .i64 (i + 1)))] [] := by
  rintro v rfl
  exact ⟨_, by omega, hJ _ _ _ ⟨i + 1, rfl, h, rfl, rfl⟩⟩
 by_cases e1 : ati ls i = 1
 ·simp [LX, e1] at hs
  simp [CX, h, e1]
  exact ⟨by omega, by omega, next _ (by omega)⟩
 by_cases e2 : ati ls i = 2
 ·simp [LX, e2] at hs
  simp [CX, h, e1, e2]
  exact ⟨by omega, by omega, next _ (by omega)⟩
 ·simp [LX, e1, e2] at hs
  simp [CX, h, e1, e2]
  exact ⟨by omega, next _ (by omega)⟩
theorem UT (xs : List Int) (x : Int) (hl : xs.length < 2 ^ 40) :
  SoundAt Tryz.prog Fu [.sl 1 1 (AB xs), .v (.int .i64 x)] (.v (.int .i64 (D2 (fun k => decide (x = ati xs k)) xs.length))) [.bot, .bot] := by
 refine AE (md := md0) (ms := [false, false]) LW (by simp) ?_
 simp [Fv]
 refine AF (fun m E H => ∃ i : Nat, m = xs.length - i ∧ i ≤ xs.length ∧ (∀ k : Nat, k < i → decide (x = ati xs k) = false) ∧ H = [] ∧ E = [(0, .sl 1 1 (AB xs)), (1, .v (.int .i64 x)), (7, .v (.int .i64 xs.length)), (8, .v (.int .i64 i))]) xs.length ⟨0, by simp⟩ ?_
 rintro J hJ m E H ⟨i, rfl, hi, ha, rfl, rfl⟩
 by_cases h : i < xs.length
 case neg =>
  have : i = xs.length := by omega
  subst this
  have e : D2 (fun k => decide (x = ati xs k)) xs.length = -1 := Bk ha
  simp [BX, e]
 by_cases hx : x = ati xs i
 ·have e : D2 (fun k => decide (x = ati xs k)) xs.length = i := B5 h (decide_eq_true hx) ha
  simp [BX, h, e]
  exact fun n => absurd hx n
 ·simp [BX, h, hx]
  refine ⟨by omega, _, by omega, hJ _ _ _ ⟨i + 1, rfl, h, ?_, rfl, rfl⟩⟩
  intro k hk
  rcases Nat.lt_or_ge k i with h1 | h1
  ·exact ha k h1
  ·have : k = i := by omega
   subst this; exact decide_eq_false hx
theorem OD (x : Int) :
  SoundAt Tryz.prog Ed [.sl 1 1 (AB [1, 2]), .v (.int .i64 x)] (.v (.bool (LX x))) [.bot, .bot] := by
 refine AE (md := md0) (ms := [false, false]) Jc (by simp) ?_
 simp [Ee]
 refine AA (UT [1, 2] x (by simp)) ?_
 have e : decide (0 ≤ D2 (fun k : Nat => decide (x = ati [1, 2] k)) 2) = LX x := by
  by_cases h1 : x = 1
  ·rw [B5 (k := 0) (by omega) (by simp [h1, ati]) (by omega)]; simp [LX, h1]
  ·by_cases h2 : x = 2
   ·have h0 : ∀ j : Nat, j < 1 → decide (x = ati [1, 2] j) = false := by
     intro j hj
     have : j = 0 := by omega
     subst this
     simp [ati, h1]
    rw [B5 (k := 1) (by omega) (by simp [h2, ati]) h0]
    simp [LX, h2]
   ·have h0 : ∀ j : Nat, j < 2 → decide (x = ati [1, 2] j) = false := by
     intro j hj
     have : j = 0 ∨ j = 1 := by omega
     rcases this with rfl | rfl <;> simp [ati, h1, h2]
    rw [Bk h0]
    simp [LX, h1, h2]
 simp [e]
theorem WF (ls : List Int) (hl : ls.length < 2 ^ 40) :
  SoundAt Tryz.prog TK [.sl 1 1 (AB ls), .sl 1 1 (AB [1, 2])] (.v (.int .i64 (Ie ls))) [.bot, .bot] := by
 refine AE (md := md0) (ms := [false, false]) YO (by simp) ?_
 simp [TL]
 refine AF (fun m E H => ∃ i : Nat, m = ls.length - i ∧ i ≤ ls.length ∧ H = [] ∧ E = [(1, .sl 1 1 (AB [1, 2])), (5, .v (.int .i64 (Ie (ls.take i)))), (8, .sl 1 1 (AB ls)), (9, .v (.int .i64 ls.length)), (10, .v (.int .i64 i))]) ls.length ⟨0, by simp [Ie]⟩ ?_
 rintro J hJ m E H ⟨i, rfl, hi, rfl, rfl⟩
 by_cases h : i < ls.length
 case neg =>
  have : i = ls.length := by omega
  subst this
  simp [Jb]
 have hs := TM h
 have hle : Ie (ls.take i) ≤ i := by have := WE (ls.take i); simp at this; omega
 have next : ∀ v : Int, v = Ie (ls.take (i + 1)) → Cz J (ls.length - i) [(1, .sl 1 1 (AB [1, 2])), (5, .v (.int .i64 v)), (8, .sl 1 1 (AB ls)), (9, .v (.int .i64 ls.length)), (10, .v (.int .i64 (i + 1)))] [] := by
  rintro v rfl
  exact ⟨_, by omega, hJ _ _ _ ⟨i + 1, rfl, h, rfl, rfl⟩⟩
 simp [Jb, h]
 refine AA (OD (ati ls i)) ?_
 cases hd : LX (ati ls i) with
 | true =>
   simp [hd] at hs
   simp
   exact ⟨by omega, by omega, next _ (by omega)⟩
 | false =>
   simp [hd] at hs
   simp
   exact ⟨by omega, next _ (by omega)⟩
theorem Rj (W T : Int) (cs : List Bool) (ds ls : List Int) (ps : List (List Int)) (hc : cs.length < 2 ^ 40) (hl : ls.length < 2 ^ 40) :
  SoundAt Tryz.prog LC [bkP W T cs ds ls ps] (.v (.int .i64 (Bg cs - 2 * Ie ls))) [.bot] := by
 refine AE (md := md0) (ms := [false]) Rg (by simp) ?_
 have h1 := HV cs
 have h2 := WE ls
 have one := Su cs hc
 have two := WF ls hl
 have ei : AB [1, 2] = [.v (.int .i64 1), .v (.int .i64 2)] := rfl
 rw [ei] at two
 simp [LD, Z2]
 (repeat' first | assumption | omega | apply And.intro)
 all_goals first
  | (refine AA one ?_; simp; (repeat' first | assumption | omega | apply And.intro) <;> (refine AA two ?_; simp; (repeat' first | assumption | omega | apply And.intro)))
  | (refine AA two ?_; simp; (repeat' first | assumption | omega | apply And.intro) <;> (refine AA one ?_; simp; (repeat' first | assumption | omega | apply And.intro)))
def bS (W T : Int) (cs : List Bool) (ds ls : List Int) (ps : List (List Int)) : Int := if A0 W T cs ds ls ps then Bg cs - 2 * Ie ls else -1
theorem Rk (W T : Int) (cs : List Bool) (ds ls : List Int) (ps : List (List Int)) (hc : cs.length < 2 ^ 40) (hd : ds.length < 2 ^ 40) (hl : ls.length < 2 ^ 40) (hb : ps.length < 2 ^ 40) (hp : ∀ p ∈ ps, p.length < 2 ^ 40) :
  SoundAt Tryz.prog LE [bkA W T cs ds ls ps] (.v (.int .i64 (bS W T cs ds ls ps))) [.bot] := by
 refine AE (md := md0) (ms := [false]) Rh (by simp) ?_
 simp [LF]
 refine AA (CH W T cs ds ls ps hc hd hl hb hp) ?_
 cases hv : A0 W T cs ds ls ps with
 | false => simp [bS, hv]
 | true =>
 have h1 := HV cs
 have h2 := WE ls
 have hok := Cm (Mx hv)
 have hr := (Lv hok).1
 have hly : AO W T cs ls = true := by
  simp only [okB, Bool.and_eq_true] at hok; exact hok.2.2
 have one := Ri W T cs hc
 have two := H5 W T cs ls hc hl
 rw [hr] at one
 rw [hr, hly] at two
 simp at one two
 have el : bS W T cs ds ls ps = Bg cs - 2 * Ie ls := by simp [bS, hv]
 rw [el]
 simp
 (repeat' first | assumption | omega | apply And.intro)
 all_goals first
  | (refine AA one ?_; simp; (repeat' first | assumption | omega | apply And.intro) <;> (refine AA two ?_; simp; (repeat' first | assumption | omega | apply And.intro)))
  | (refine AA two ?_; simp; (repeat' first | assumption | omega | apply And.intro) <;> (refine AA one ?_; simp; (repeat' first | assumption | omega | apply And.intro)))
@[simp] abbrev Na : Nat := 222
def Cx : ACode := .seq (.seq (.reg [.m 6 5, .m 7 1, .n 8 7, .o 9 (.bin .lss 0) [.t 6, .t 8]]) <| .cond (.t 9) ( .skip) ( .exit 0)) <| .seq (.block 1 ( .seq (.reg [.f 12 2 2, .l 13 12, .m 14 5, .o 15 (.iadr 1) [.t 13, .t 14], .l 16 15, .m 17 16, .mg 18 1 17 true, .mg 19 5 17 true, .g 20 (.iadr 1) [.t 18, .t 19] 17 true, .lg 21 20 17 true, .g 22 (.bin .eql 0) [.t 21, .k 0] 17 true, .o 23 .pick [.t 17, .t 22, .kb false]]) <| .cond (.t 23) ( .seq (.reg [.m 24 5, .m 4 24]) <| .ret) ( .skip))) <| .reg [.m 10 5, .o 11 (.bin .add 0) [.t 10, .k 1], .m 5 11]
def Nb : ACode := .seq (.reg [.o 2 .box [.t 0], .o 4 .mv [.k 0]]) <| .seq (.seq (.reg [.o 5 .mv [.k 0]]) <| .block 0 ( .loop [(1, 1)] [1, 2, 5] Cx)) <| .seq (.reg [.o 4 .mv [.k (-1)]]) <| .ret
theorem UU : cFn Tryz.prog Na 25 [.t 4] Nb := ⟨Tryz.f222, _, Tryz.func222, rfl, by kernel_rfl, by kernel_rfl, by kernel_rfl, by kernel_rfl⟩
@[simp] abbrev RE : Nat := 274
def H6 : ACode := .seq (.seq (.reg [.m 20 7, .o 21 (.bin .leq 0) [.t 20, .k 2]]) <| .cond (.t 21) ( .skip) ( .exit 0)) <| .seq (.block 1 ( .seq (.reg [.la 25 3 2, .m 26 1, .m 27 6, .m 28 7, .o 29 (.call 140 []) [.t 25, .t 26, .t 27, .t 28], .m 24 29, .e 30 0 24, .e 31 1 24, .m 8 30, .m 9 31]) <| .seq (.reg [.m 32 9]) <| .cond (.t 32) ( .reg [.m 33 5, .la 34 3 2, .m 35 8, .o 36 (.call 274 []) [.t 34, .t 35], .o 37 (.app 1 24 false) [.t 33, .t 36], .m 5 37]) ( .skip))) <| .reg [.m 22 7, .o 23 (.bin .add 0) [.t 22, .k 1], .m 7 23]
def MF : ACode := .seq (.reg [.o 2 .box [.t 0], .o 4 .mv [.c (.os 1 [])]]) <| .seq (.reg [.o 10 (.bsl 1) [], .m 5 10]) <| .seq (.reg [.la 11 3 2, .m 12 1, .o 13 (.call 222 []) [.t 11, .t 12], .m 6 13]) <| .seq (.seq (.reg [.m 14 6, .o 15 (.bin .lss 0) [.t 14, .k 0]]) <| .cond (.t 15) ( .seq (.reg [.m 16 5, .m 17 1, .o 18 (.bsl 1) [.t 17], .o 19 (.app 1 24 false) [.t 16, .t 18], .m 4 19]) <| .ret) ( .skip)) <| .seq (.seq (.reg [.o 7 .mv [.k 1]]) <| .block 0 ( .loop [(1, 1), (5, 1)] [1, 2, 5, 6, 7] H6)) <| .seq (.reg [.m 38 5, .m 4 38]) <| .ret
theorem RF : cFn Tryz.prog RE 39 [.t 4] MF := ⟨Tryz.f274, _, Tryz.func274, rfl, by kernel_rfl, by kernel_rfl, by kernel_rfl, by kernel_rfl⟩
@[simp] abbrev GG : Nat := 244
abbrev EP : Plan := .al (.o 10 (.call 274 []) [.t 7, .t 9]) ( .take (.m 2 10) <| .done)
def J9 : ACode := .seq (.reg [.o 1 .box [.t 0], .o 2 .mv [.c (.os 1 [])]]) <| .seq (.seq (.reg [.la 3 3 1, .o 4 (.call 168 []) [.t 3], .o 5 (.un .not) [.t 4]]) <| .cond (.t 5) ( .seq (.reg [.o 6 (.bsl 1) [], .m 2 6]) <| .ret) ( .skip)) <| .seq (.draw ( .alt (.la 7 3 1) ( .al (.la 8 3 1) ( .al (.o 9 (.call 146 []) [.t 8]) EP)) <| .al (.la 8 3 1) ( .alt (.la 7 3 1) ( .al (.o 9 (.call 146 []) [.t 8]) EP) <| .al (.o 9 (.call 146 []) [.t 8]) ( .al (.la 7 3 1) EP)))) <| .ret
theorem Qg : cFn Tryz.prog GG 11 [.t 2] J9 := ⟨Tryz.f244, _, Tryz.func244, rfl, by kernel_rfl, by kernel_rfl, by kernel_rfl, by kernel_rfl⟩
@[simp] abbrev Er : Nat := 202
def DX : ACode := .seq (.seq (.reg [.m 11 7, .m 12 6, .n 13 12, .o 14 (.bin .lss 0) [.t 11, .t 13], .m 15 14, .g 16 (.load true 3) [.t 2] 15 true, .mg 17 1 15 true, .g 18 (.call 121 []) [.t 16, .t 17] 15 true, .o 19 .pick [.t 15, .t 18, .kb false]]) <| .cond (.t 19) ( .skip) ( .exit 0)) <| .seq (.block 1 ( .seq (.draw ( .take (.m 23 1) <| .take (.m 24 6) <| .take (.m 25 7) <| .take (.o 26 (.iadr 1) [.t 24, .t 25]) <| .alt (.la 22 3 2) ( .al (.l 27 26) ( .al (.o 28 (.call 148 []) [.t 22, .t 23, .t 27]) ( .done))) <| .al (.l 27 26) ( .al (.la 22 3 2) ( .al (.o 28 (.call 148 []) [.t 22, .t 23, .t 27]) ( .done))))) <| .cond (.t 28) ( .reg [.m 29 5, .m 30 6, .m 31 7, .o 32 (.iadr 1) [.t 30, .t 31], .l 33 32, .o 34 (.bsl 1) [.t 33], .o 35 (.app 1 24 false) [.t 29, .t 34], .m 5 35]) ( .skip))) <| .reg [.m 20 7, .o 21 (.bin .add 0) [.t 20, .k 1], .m 7 21]
def H7 : ACode := .seq (.reg [.o 2 .box [.t 0], .o 4 .mv [.c (.os 1 [])]]) <| .seq (.reg [.o 8 (.bsl 1) [], .m 5 8]) <| .seq (.reg [.la 9 3 2, .o 10 (.call 244 []) [.t 9], .m 6 10]) <| .seq (.seq (.reg [.o 7 .mv [.k 0]]) <| .block 0 ( .loop [(1, 1), (5, 1), (6, 1)] [1, 2, 5, 6, 7] DX)) <| .seq (.reg [.m 36 5, .m 4 36]) <| .ret
theorem OE : cFn Tryz.prog Er 37 [.t 4] H7 := ⟨Tryz.f202, _, Tryz.func202, rfl, by kernel_rfl, by kernel_rfl, by kernel_rfl, by kernel_rfl⟩
@[simp] abbrev MG : Nat := 146
def MH : ACode := .seq (.reg [.o 1 .box [.t 0], .o 2 .mv [.c (.os 1 [])]]) <| .seq (.seq (.reg [.la 3 3 1, .o 4 (.call 168 []) [.t 3], .o 5 (.un .not) [.t 4]]) <| .cond (.t 5) ( .seq (.reg [.o 6 (.bsl 1) [], .m 2 6]) <| .ret) ( .skip)) <| .seq (.reg [.f 7 2 1, .l 8 7, .n 9 8, .o 10 (.mksl 1 8 (.v (.int .i64 (0)))) [.t 9, .t 9], .m 2 10]) <| .ret
theorem TN : cFn Tryz.prog MG 11 [.t 2] MH := ⟨Tryz.f146, _, Tryz.func146, rfl, by kernel_rfl, by kernel_rfl, by kernel_rfl, by kernel_rfl⟩
@[simp] def md1 (f : Nat) : List Bool := if f = 274 then [false, true] else md0 f
def Ef (cs : List Bool) (ls : List Int) (k : Nat) : Bool := atb cs k && decide (ati ls k = 0)
def EQ (cs : List Bool) (ls : List Int) : Int := D2 (Ef cs ls) ls.length
def allT (W T : Int) (cs : List Bool) : Nat → List Int → List (List Int)
 | 0, ls => [ls]
 | n + 1, ls => if EQ cs ls < 0 then [ls] else
     (if BU W T cs ls (EQ cs ls) 1 then allT W T cs n (C2 W T ls (EQ cs ls) 1) else []) ++
     (if BU W T cs ls (EQ cs ls) 2 then allT W T cs n (C2 W T ls (EQ cs ls) 2) else [])
theorem H8 (W T : Int) (cs : List Bool) : ∀ (n : Nat) (ls : List Int), (allT W T cs n ls).length ≤ 2 ^ n
 | 0, ls => by simp [allT]
 | n + 1, ls => by
   have h1 := H8 W T cs n (C2 W T ls (EQ cs ls) 1)
   have h2 := H8 W T cs n (C2 W T ls (EQ cs ls) 2)
   have h3 : 0 < 2 ^ n := Nat.pow_pos (by omega)
   rw [allT]
   split
   ·simp only [List.length_singleton]; omega
   ·rw [List.length_append]
    have e1 : (if BU W T cs ls (EQ cs ls) 1 then allT W T cs n (C2 W T ls (EQ cs ls) 1) else []).length ≤ 2 ^ n := by
     split
     ·exact h1
     ·simp
    have e2 : (if BU W T cs ls (EQ cs ls) 2 then allT W T cs n (C2 W T ls (EQ cs ls) 2) else []).length ≤ 2 ^ n := by
     split
     ·exact h2
     ·simp
    omega
theorem E3 (cs : List Bool) (ls : List Int) : EQ cs ls = -1 ∨ ∃ k : Nat, k < ls.length ∧ EQ cs ls = k ∧ atb cs k = true ∧ ati ls k = 0 := by
 rcases L7 (Ef cs ls) ls.length with h | ⟨k, hk, hp, he⟩
 ·left; exact h
 ·right
  simp only [Ef, Bool.and_eq_true, decide_eq_true_eq] at hp
  exact ⟨k, hk, he, hp.1, hp.2⟩
theorem H9 {W T : Int} {ls : List Int} {k : Nat} {way : Int} (hk : k < ls.length) (hz : ati ls k = 0) (h1 : 1 ≤ way) (h4 : way ≤ 4) : CF (C2 W T ls k way) < CF ls := by
 have hb : Ck way ≠ 0 := by
  have := (HP h1 h4).2
  omega
 refine Nat.lt_of_le_of_lt (RD hb) ?_
 exact L8 (by simpa using hk) (by simpa using hz) (by omega)
theorem Nc (W T : Int) (cs : List Bool) (ls : List Int) (hl : ls.length = cs.length) (hb : cs.length < 2 ^ 40) :
  SoundAt Tryz.prog Na [.agg [.v (.int .i64 W), .v (.int .i64 T), .sl 1 1 (AC cs)], .sl 1 1 (AB ls)] (.v (.int .i64 (EQ cs ls))) [.bot, .bot] := by
 refine AE (md := md0) (ms := [false, false]) UU (by simp) ?_
 simp [Nb]
 refine AF (fun m E H => ∃ i : Nat, m = ls.length - i ∧ i ≤ ls.length ∧ (∀ j : Nat, j < i → Ef cs ls j = false) ∧ H = [some (.box [.v (.int .i64 W), .v (.int .i64 T), .sl 1 1 (AC cs)])] ∧
  E = [(1, .sl 1 1 (AB ls)), (2, .lp 0 0 0 0), (5, .v (.int .i64 i))]) ls.length ⟨0, by simp⟩ ?_
 rintro J hJ m E H ⟨i, rfl, hi, ha, rfl, rfl⟩
 by_cases h : i < ls.length
 case neg =>
  have : i = ls.length := by omega
  subst this
  have e : EQ cs ls = -1 := Bk ha
  simp [Cx, e]
 have next : Ef cs ls i = false → Cz J (ls.length - i) [(1, .sl 1 1 (AB ls)), (2, .lp 0 0 0 0), (5, .v (.int .i64 (i + 1)))]
   [some (.box [.v (.int .i64 W), .v (.int .i64 T), .sl 1 1 (AC cs)])] := by
  intro hx
  refine ⟨_, by omega, hJ _ _ _ ⟨i + 1, rfl, h, ?_, rfl, rfl⟩⟩
  intro j hj
  rcases Nat.lt_or_ge j i with h1 | h1
  ·exact ha j h1
  ·have : j = i := by omega
   subst this; exact hx
 have h2 : i < cs.length := by omega
 cases hc : atb cs i with
 | false =>
   simp [Cx, h, h2, hc]
   exact ⟨by omega, next (by simp [Ef, hc])⟩
 | true =>
 by_cases z : ati ls i = 0
 ·have e : EQ cs ls = i := B5 h (by simp [Ef, hc, z]) ha
  simp [Cx, h, h2, hc, z, e]
 ·simp [Cx, h, h2, hc, z]
  exact ⟨by omega, next (by simp [Ef, z])⟩
theorem MI {W T : Int} {cs : List Bool} {ls : List Int} (n : Nat) (h : EQ cs ls < 0) : allT W T cs n ls = [ls] := by
 cases n with
 | zero => rfl
 | succ n => simp [allT, h]
def MJ (W T : Int) (cs : List Bool) (n : Nat) (ls : List Int) (cell way : Int) : List (List Int) := if BU W T cs ls cell way then allT W T cs n (C2 W T ls cell way) else []
def Pk (W T : Int) (cs : List Bool) (n : Nat) (ls : List Int) (cell : Int) (i : Nat) : List (List Int) := (List.range i).flatMap fun j : Nat => MJ W T cs n ls cell (j + 1)
theorem Pm (W T : Int) (cs : List Bool) (n : Nat) (ls : List Int) (cell : Int) (i : Nat) : Pk W T cs n ls cell (i + 1) = Pk W T cs n ls cell i ++ MJ W T cs n ls cell (i + 1) := by
 simp [Pk, List.range_succ]
theorem XO (W T : Int) (cs : List Bool) (n : Nat) (ls : List Int) (cell way : Int) : (MJ W T cs n ls cell way).length ≤ 2 ^ n := by
 unfold MJ; split
 ·exact H8 ..
 ·simp
theorem OG (W T : Int) (cs : List Bool) (n : Nat) (ls : List Int) (cell : Int) : ∀ i, (Pk W T cs n ls cell i).length ≤ i * 2 ^ n
 | 0 => by simp [Pk]
 | i + 1 => by
   have h1 := OG W T cs n ls cell i
   have h2 := XO W T cs n ls cell (i + 1)
   rw [Pm, List.length_append, Nat.succ_mul]
   omega
theorem MK {ls : List Int} {k : Nat} (h : k < ls.length) (hz : ati ls k = 0) : 0 < CF ls := by
 have := L8 (v := 1) h hz (by omega)
 omega
theorem XP (W T : Int) (cs : List Bool) (hr : Az W T cs = true) : ∀ (n : Nat) (ls : List Int), n ≤ 36 → CF ls ≤ n → AO W T cs ls = true →
  SoundAt Tryz.prog RE [.agg [.v (.int .i64 W), .v (.int .i64 T), .sl 1 1 (AC cs)], .os 1 (AB ls)] (.os 1 (oss (allT W T cs n ls))) [.bot, .bot] := by
 intro n
 have h36 := AZ hr
 induction n with
 | zero =>
   intro ls hn hz hy
   have hl : ls.length = cs.length := by simp only [AO, Bool.and_eq_true, decide_eq_true_eq] at hy; exact hy.1
   refine AE (md := md1) (ms := [false, false]) RF (by simp) ?_
   simp [MF]
   refine AA (Nc W T cs ls hl (by omega)) ?_
   rcases E3 cs ls with h | ⟨k, hk, he, hc, hzk⟩
   ·simp [h, MI, Qd]
   ·have := MK hk hzk
    omega
 | succ n ih =>
   intro ls hn hz hy
   have hl : ls.length = cs.length := by simp only [AO, Bool.and_eq_true, decide_eq_true_eq] at hy; exact hy.1
   refine AE (md := md1) (ms := [false, false]) RF (by simp) ?_
   simp [MF]
   refine AA (Nc W T cs ls hl (by omega)) ?_
   rcases E3 cs ls with h | ⟨k, hk, he, hc, hzk⟩
   ·simp [h, MI, Qd]
   have hk0 : ¬ (k : Int) < 0 := by omega
   have hall : allT W T cs (n + 1) ls = Pk W T cs n ls k 2 := by
    rw [allT, he, if_neg hk0]
    simp [Pk, MJ, List.range_succ]
   rw [hall]
   simp [he, hk0]
   refine AF (fun m E H => ∃ i : Nat, m = 2 - i ∧ i ≤ 2 ∧ H = [some (.arr 1 (AB ls)), some (.box [.v (.int .i64 W), .v (.int .i64 T), .sl 1 1 (AC cs)]), some (.arr 1 (oss (Pk W T cs n ls k i)))] ∧
    E = [(1, .ls 1 0 0 ls.length), (2, .lp 0 1 0 0), (5, .ls 1 2 0 (Pk W T cs n ls k i).length), (6, .v (.int .i64 k)), (7, .v (.int .i64 (i + 1)))]) 2 ⟨0, by simp [Pk]⟩ ?_
   rintro J hJ m E H ⟨i, rfl, hi, rfl, rfl⟩
   by_cases h : i < 2
   case neg =>
    have : i = 2 := by omega
    subst this
    simp [H6]
   have h' : (i : Int) + 1 ≤ 2 := by omega
   have hsuc := Pm W T cs n ls k i
   have next : ∀ (x : List (List Int)), MJ W T cs n ls k (i + 1) = x → Cz J (2 - i) [(1, .ls 1 0 0 ls.length), (2, .lp 0 1 0 0), (5, .ls 1 2 0 ((Pk W T cs n ls k i).length + x.length)), (6, .v (.int .i64 k)), (7, .v (.int .i64 (i + 1 + 1)))]
     [some (.arr 1 (AB ls)), some (.box [.v (.int .i64 W), .v (.int .i64 T), .sl 1 1 (AC cs)]), some (.arr 1 (oss (Pk W T cs n ls k i) ++ oss x))] := by
    intro x hx
    refine ⟨_, by omega, hJ _ _ _ ⟨i + 1, rfl, h, ?_, ?_⟩⟩
    ·rw [hsuc, hx, J4]
    ·rw [hsuc, hx, List.length_append]; rfl
   have one := HG W T cs ls k (i + 1) hr hy
   simp [H6, h']
   refine AA one ?_
   cases hf : BU W T cs ls k (i + 1) with
   | false =>
     have nx := next [] (by simp [MJ, hf])
     simp at nx
     simp
     exact ⟨by omega, nx⟩
   | true =>
     have el : B9 W T cs ls k (i + 1) = C2 W T ls k (i + 1) := by simp [B9, hf]
     rw [el]
     have hy2 := NC hr hy hf
     have hz2 : CF (C2 W T ls k (i + 1)) < CF ls := H9 hk hzk (by omega) (by omega)
     have two := ih (C2 W T ls k (i + 1)) (by omega) (by omega) hy2
     have nx := next (allT W T cs n (C2 W T ls k (i + 1))) (by simp [MJ, hf])
     have hll := AL W T ls k (i + 1)
     have htk : (AB (C2 W T ls k (i + 1))).take ls.length = AB (C2 W T ls k (i + 1)) := List.take_of_length_le (by simp [hll])
     have b1 := H8 W T cs n (C2 W T ls k (i + 1))
     have b0 : 2 ^ n ≤ 2 ^ 36 := Nat.pow_le_pow_right (by omega) (by omega)
     have b2 := OG W T cs n ls k i
     have b3 : i * 2 ^ n ≤ 2 * 2 ^ n := Nat.mul_le_mul_right _ (by omega)
     have b4 : (Pk W T cs n ls k i).length + (allT W T cs n (C2 W T ls k (i + 1))).length ≤ 206158430208 := by omega
     simp [hll, htk]
     refine AA two ?_
     simp [hll, htk]
     exact ⟨by omega, by omega, nx⟩
def BO (cs : List Bool) : List Int := List.replicate cs.length 0
theorem WG (cs : List Bool) (k : Int) : ati (BO cs) k = 0 := by
 unfold ati BO
 rw [List.getD_eq_getElem?_getD, List.getElem?_replicate]
 split <;> rfl
theorem Pn (W T : Int) (cs : List Bool) : AO W T cs (BO cs) = true := by
 simp only [AO, Bool.and_eq_true, decide_eq_true_eq, Cl]
 refine ⟨by simp [BO], fun k _ => ?_⟩
 simp only [JX, decide_eq_true_eq]
 exact .inl (WG cs k)
theorem WH (W T : Int) (cs : List Bool) : ∀ (n : Nat) (ls p : List Int), p ∈ allT W T cs n ls → p.length = ls.length
 | 0, ls, p, h => by simp [allT] at h; rw [h]
 | n + 1, ls, p, h => by
   rw [allT] at h
   split at h
   ·simp at h; rw [h]
   ·rw [List.mem_append] at h
    rcases h with h | h <;> split at h
    ·rw [WH W T cs n _ p h, AL]
    ·cases h
    ·rw [WH W T cs n _ p h, AL]
    ·cases h
def G3 (W T : Int) (cs : List Bool) : List (List Int) := if Az W T cs then allT W T cs cs.length (BO cs) else []
theorem XQ {W T : Int} {cs : List Bool} {p : List Int} (h : p ∈ G3 W T cs) : p.length = cs.length := by
 unfold G3 at h
 split at h
 ·rw [WH W T cs _ _ p h]; simp [BO]
 ·cases h
theorem RG {W T : Int} {cs : List Bool} : (G3 W T cs).length ≤ 68719476736 := by
 unfold G3
 split
 ·rename_i hr
  have h1 := H8 W T cs cs.length (BO cs)
  have h2 : 2 ^ cs.length ≤ 2 ^ 36 := Nat.pow_le_pow_right (by omega) (AZ hr)
  omega
 ·simp
theorem IA (W T : Int) (cs : List Bool) (hb : cs.length < 2 ^ 40) :
  SoundAt Tryz.prog MG [.agg [.v (.int .i64 W), .v (.int .i64 T), .sl 1 1 (AC cs)]] (.os 1 (AB (if Az W T cs then BO cs else []))) [.bot] := by
 refine AE (md := md0) (ms := [false]) TN (by simp) ?_
 simp [MH]
 refine AA (BG W T cs hb) ?_
 cases hr : Az W T cs with
 | false => simp
 | true =>
 simp [BO, Y1]
 exact ⟨by omega, List.take_of_length_le (by simp)⟩
theorem Qh (W T : Int) (cs : List Bool) (hb : cs.length < 2 ^ 40) :
  SoundAt Tryz.prog GG [.agg [.v (.int .i64 W), .v (.int .i64 T), .sl 1 1 (AC cs)]] (.os 1 (oss (G3 W T cs))) [.bot] := by
 refine AE (md := md1) (ms := [false]) Qg (by simp) ?_
 simp [J9]
 refine AA (BG W T cs hb) ?_
 cases hr : Az W T cs with
 | false => simp [G3, hr]
 | true =>
 have one := IA W T cs hb
 rw [if_pos hr] at one
 have hn : (BO cs).length = cs.length := by simp [BO]
 have hz : CF (BO cs) ≤ cs.length := by have := JD (BO cs); omega
 have two := XP W T cs hr cs.length (BO cs) (AZ hr) hz (Pn W T cs)
 have et : G3 W T cs = allT W T cs cs.length (BO cs) := by simp [G3, hr]
 have htk : (AB (BO cs)).take cs.length = AB (BO cs) := List.take_of_length_le (by simp [hn])
 rw [et]
 simp
 (repeat' first | assumption | omega | apply And.intro) <;>
 ·refine AA one ?_
  simp [hn, htk]
  (repeat' first | assumption | omega | apply And.intro) <;>
  ·refine AA two ?_
   simp [hn, htk]
def C9 (W T : Int) (cs : List Bool) (ds : List Int) : List (List Int) := if (Az W T cs && Cd cs ds) = true then (G3 W T cs).filter (Ct W T cs ds) else []
theorem YP {ps : List (List Int)} {i : Nat} (f : List Int → Bool) (h : i < ps.length) : (ps.take (i + 1)).filter f = (ps.take i).filter f ++ if f (pti ps i) then [pti ps i] else [] := by
 rw [List.take_succ_eq_append_getElem h, List.filter_append, D3 h]
 congr 1
 cases hf : f ps[i] <;> simp [hf]
theorem kJ {W T : Int} {cs : List Bool} : ∀ (C : Ctx) (S : List Nat) (us : List Value), RL C [.agg [.v (.int .i64 W), .v (.int .i64 T), .sl 1 1 (AC cs)]] S us → S = [] := by
 intro C S us h
 rw [RL] at h
 obtain ⟨S1, S2, u, us', rfl, rfl, h1, h2⟩ := h
 rw [RL] at h2
 rw [R] at h1
 obtain ⟨vs, _, h1⟩ := h1
 rw [RL] at h1
 obtain ⟨A1, A2, _, _, rfl, _, a1, h1⟩ := h1
 rw [RL] at h1
 obtain ⟨A3, A4, _, _, rfl, _, a3, h1⟩ := h1
 rw [RL] at h1
 obtain ⟨A5, A6, _, _, rfl, _, a5, h1⟩ := h1
 rw [RL] at h1
 rw [R] at a1
 rw [R] at a3
 rw [R] at a5
 rw [a1.1, a3.1, a5.1, h1.1, h2.1]
 rfl
theorem Po (W T : Int) (cs : List Bool) (hb : cs.length < 2 ^ 40) :
  SoundAt Tryz.prog GG [.agg [.v (.int .i64 W), .v (.int .i64 T), .sl 1 1 (AC cs)]] (.sl 0 1 (sls 0 (G3 W T cs))) [.bot] := by
 have h := SoundAt.frozen (n := 1) kJ (Qh W T cs hb)
 simpa [vw] using h
theorem OH (W T : Int) (cs : List Bool) (ds : List Int) (hb : cs.length < 2 ^ 40) (hd : ds.length < 2 ^ 40) :
  SoundAt Tryz.prog Er [.agg [.v (.int .i64 W), .v (.int .i64 T), .sl 1 1 (AC cs)], .sl 1 1 (AB ds)] (.os 1 (sls 0 (C9 W T cs ds))) [.bot, .bot] := by
 refine AE (md := md1) (ms := [false, false]) OE (by simp) ?_
 simp [H7]
 refine AA (Po W T cs hb) ?_
 simp
 have hpv := CN W T cs ds hb hd
 have hmem : ∀ p ∈ G3 W T cs, p.length = cs.length := fun p hp => XQ hp
 have htl := RG (W := W) (T := T) (cs := cs)
 have esol : C9 W T cs ds = if (Az W T cs && Cd cs ds) = true then (G3 W T cs).filter (Ct W T cs ds) else [] := rfl
 generalize G3 W T cs = ts at *
 refine AF (fun m E H => ∃ i : Nat, m = ts.length - i ∧ i ≤ ts.length ∧ (i = 0 ∨ (Az W T cs && Cd cs ds) = true) ∧ H = [some (.box [.v (.int .i64 W), .v (.int .i64 T), .sl 1 1 (AC cs)]), some (.arr 1 (sls 0 ((ts.take i).filter (Ct W T cs ds))))] ∧
  E = [(1, .sl 1 1 (AB ds)), (2, .lp 0 0 0 0), (5, .ls 1 1 0 ((ts.take i).filter (Ct W T cs ds)).length), (6, .sl 0 1 (sls 0 ts)), (7, .v (.int .i64 i))]) ts.length ⟨0, by simp⟩ ?_
 rintro J hJ m E H ⟨i, rfl, hi, hp0, rfl, rfl⟩
 by_cases h : i < ts.length
 case neg =>
  have : i = ts.length := by omega
  subst this
  have e2 : (ts.take ts.length).filter (Ct W T cs ds) = C9 W T cs ds := by
   rw [List.take_length, esol]
   rcases hp0 with h0 | h0
   ·have : ts = [] := List.eq_nil_of_length_eq_zero h0
    subst this
    simp
   ·rw [if_pos h0]
  rw [e2]
  simp [DX]
  exact List.take_of_length_le (by simp)
 simp [DX, h]
 refine AA hpv ?_
 cases hp : (Az W T cs && Cd cs ds) with
 | false =>
   have : i = 0 := by rcases hp0 with h0 | h0; exact h0; rw [hp] at h0; cases h0
   subst this
   have e2 : C9 W T cs ds = [] := by rw [esol, if_neg (by simp [hp])]
   simp [e2]
 | true =>
 have hr : Az W T cs = true := by simp only [Bool.and_eq_true] at hp; exact hp.1
 have h36 := AZ hr
 have hpl := hmem _ (Kg h)
 have one := L1 W T cs ds (pti ts i) hb hd (by omega)
 have hsuc := YP (Ct W T cs ds) h
 have hlen : ((ts.take i).filter (Ct W T cs ds)).length ≤ i := by
  refine Nat.le_trans (List.length_filter_le _ _) ?_
  rw [List.length_take]; omega
 simp [h]
 (repeat' first | assumption | omega | apply And.intro) <;>
 ·refine AA one ?_
  cases hs : Ct W T cs ds (pti ts i) with
  | false =>
    rw [if_neg (by simp [hs]), List.append_nil] at hsuc
    simp [h]
    exact ⟨by omega, _, by omega, hJ _ _ _ ⟨i + 1, rfl, h, .inr hp, by rw [hsuc], by rw [hsuc]; rfl⟩⟩
  | true =>
    rw [if_pos hs] at hsuc
    simp [h]
    exact ⟨by omega, by omega, _, by omega, hJ _ _ _ ⟨i + 1, rfl, h, .inr hp, by rw [hsuc]; simp [sls], by rw [hsuc]; simp⟩⟩
theorem VA {p : Nat → Bool} {n : Nat} (h : D2 p n < 0) : ∀ j, j < n → p j = false := by
 intro j hj
 cases hx : p j with
 | false => rfl
 | true =>
   exfalso
   have hm : ∃ x ∈ List.range n, p x = true := ⟨j, by simpa using hj, hx⟩
   have hs := List.find?_isSome.2 hm
   unfold D2 at h
   split at h
   ·omega
   ·rename_i h9; rw [h9] at hs; cases hs
theorem RH {cs : List Bool} {ls : List Int} (hl : ls.length = cs.length) (h : EQ cs ls < 0) : JZ cs ls = true := by
 rw [JZ, Cl]
 intro k hk
 have h1 := VA h k (by omega)
 simp only [Ef] at h1
 simp only [Hl, h1]
 rfl
theorem bT {W T : Int} {cs : List Bool} (hr : Az W T cs = true) : ∀ (n : Nat) (ls : List Int), CF ls ≤ n → AO W T cs ls = true → ∀ p ∈ allT W T cs n ls, AO W T cs p = true ∧ JZ cs p = true := by
 intro n
 induction n with
 | zero =>
   intro ls hz hy p hp
   have hl : ls.length = cs.length := by simp only [AO, Bool.and_eq_true, decide_eq_true_eq] at hy; exact hy.1
   simp only [allT, List.mem_singleton] at hp
   subst hp
   refine ⟨hy, RH hl ?_⟩
   rcases E3 cs p with h | ⟨k, hk, he, hc, hzk⟩
   ·omega
   ·have := MK hk hzk
    omega
 | succ n ih =>
   intro ls hz hy p hp
   have hl : ls.length = cs.length := by simp only [AO, Bool.and_eq_true, decide_eq_true_eq] at hy; exact hy.1
   rw [allT] at hp
   split at hp
   ·rename_i hb
    simp only [List.mem_singleton] at hp
    subst hp
    exact ⟨hy, RH hl hb⟩
   ·rename_i hb
    rcases E3 cs ls with h | ⟨k, hk, he, hc, hzk⟩
    ·omega
    rw [he] at hp
    have step : ∀ way : Int, 1 ≤ way → way ≤ 4 → BU W T cs ls k way = true → p ∈ allT W T cs n (C2 W T ls k way) → AO W T cs p = true ∧ JZ cs p = true := by
     intro way w1 w4 hf hm
     have hz2 : CF (C2 W T ls k way) < CF ls := H9 hk hzk w1 w4
     exact ih (C2 W T ls k way) (by omega) (NC hr hy hf) p hm
    rw [List.mem_append] at hp
    rcases hp with hp | hp
    ·split at hp
     ·rename_i hf; exact step 1 (by omega) (by omega) hf hp
     ·cases hp
    ·split at hp
     ·rename_i hf; exact step 2 (by omega) (by omega) hf hp
     ·cases hp
theorem bU {W T : Int} {cs : List Bool} {ds : List Int} (h : (Az W T cs && Cd cs ds) = true) : C9 W T cs ds = (G3 W T cs).filter (fun t => Jp (Bx W T ds t)) := by
 have hr : Az W T cs = true := by simp only [Bool.and_eq_true] at h; exact h.1
 have hd : Cd cs ds = true := by simp only [Bool.and_eq_true] at h; exact h.2
 have hn : (BO cs).length = cs.length := by simp [BO]
 have hz : CF (BO cs) ≤ cs.length := by have := JD (BO cs); omega
 rw [C9, if_pos h]
 apply List.filter_congr
 intro t ht
 rw [G3, if_pos hr] at ht
 obtain ⟨h1, h2⟩ := bT hr cs.length (BO cs) hz (Pn W T cs) t ht
 simp only [Ct, Af, okB, hr, hd, h1, h2, Bool.true_and, Bool.and_true]
def Jd (ls p : List Int) : Bool := T4 ls.length fun k => decide (ati ls k = 0) || decide (ati p k = ati ls k)
theorem hasB_iff {ls p : List Int} : Jd ls p = true ↔ ∀ k : Nat, k < ls.length → ati ls k = 0 ∨ ati p k = ati ls k := by
 simp only [Jd, Cl, Bool.or_eq_true, decide_eq_true_eq]
theorem KA (ls : List Int) : Jd ls ls = true := hasB_iff.2 fun _ _ => .inr rfl
theorem Zm {p : Nat → Bool} {n k : Nat} (h : D2 p n = k) : ∀ j, j < k → p j = false := by
 intro j hj
 unfold D2 at h
 split at h
 ·rename_i k' hk
  rw [List.find?_range_eq_some] at hk
  have : k' = k := by omega
  subst this
  have := hk.2.2 j hj
  simpa using this
 ·omega
theorem gv {W T : Int} {ls : List Int} {cell way : Int} (hc : cell.toNat < ls.length) (hto : (AJ W T cell way).toNat < ls.length) (j : Nat) :
  ati (C2 W T ls cell way) j = if j = (AJ W T cell way).toNat then Ck way else if j = cell.toNat then way else ati ls j := by
 unfold C2
 rw [Lh (by simpa using hto), Lh hc]
theorem E4 {W T : Int} {cs : List Bool} {ls : List Int} {k : Nat} {way : Int} (hr : Az W T cs = true) (hl : ls.length = cs.length) (hf : BU W T cs ls k way = true) :
  ∃ t : Nat, AJ W T k way = t ∧ t < ls.length ∧ k < ls.length ∧ t ≠ k ∧ 1 ≤ way ∧ way ≤ 4 ∧ AJ W T t (Ck way) = k ∧ atb cs t = true ∧ ati ls k = 0 ∧ ati ls t = 0 ∧
    ∀ j : Nat, ati (C2 W T ls k way) j = if j = t then Ck way else if j = k then way else ati ls j := by
 obtain ⟨w1, w2, t1, t2, l1, _⟩ := CK hr
 simp only [BU, decide_eq_true_eq] at hf
 obtain ⟨f0, f1, f2, f3, f4, f5, f6⟩ := hf
 obtain ⟨b1, b2, b3, b4, b5⟩ := DK (T := T) w1 f0 (by omega) f2
 have e : AJ W T k way = ((AJ W T k way).toNat : Nat) := by omega
 refine ⟨(AJ W T k way).toNat, e, by omega, by omega, by omega, b2, b3, by rw [← e]; exact b1, by rw [← e]; exact f4, f5, by rw [← e]; exact f6, ?_⟩
 intro j
 rw [gv (by omega) (by omega)]
 simp
theorem WI {W T : Int} {cs : List Bool} (hr : Az W T cs = true) : ∀ (n : Nat) (ls : List Int), ls.length = cs.length → ∀ p ∈ allT W T cs n ls, Jd ls p = true := by
 intro n
 induction n with
 | zero =>
   intro ls hl p hp
   simp only [allT, List.mem_singleton] at hp
   subst hp; exact KA p
 | succ n ih =>
   intro ls hl p hp
   rw [allT] at hp
   split at hp
   ·simp only [List.mem_singleton] at hp
    subst hp; exact KA p
   rcases E3 cs ls with h | ⟨k, hk, he, hc, hzk⟩
   ·omega
   rw [he] at hp
   have step : ∀ way : Int, BU W T cs ls k way = true → p ∈ allT W T cs n (C2 W T ls k way) → Jd ls p = true := by
    intro way hf hm
    obtain ⟨t, e, t1, t2, t3, _, _, _, _, z1, z2, hat⟩ := E4 hr hl hf
    have h1 := hasB_iff.1 (ih _ (by rw [AL]; exact hl) p hm)
    rw [hasB_iff]
    intro j hj
    have h2 := h1 j (by rw [AL]; exact hj)
    rw [hat j] at h2
    by_cases e1 : j = t
    ·subst e1; exact .inl z2
    by_cases e2 : j = k
    ·subst e2; exact .inl z1
    rw [if_neg e1, if_neg e2] at h2
    exact h2
   rw [List.mem_append] at hp
   rcases hp with hp | hp
   ·split at hp
    ·rename_i hf; exact step 1 hf hp
    ·cases hp
   ·split at hp
    ·rename_i hf; exact step 2 hf hp
    ·cases hp
theorem gw {a b : List Int} (hl : a.length = b.length) (h : ∀ k : Nat, k < a.length → ati a k = ati b k) : a = b := by
 apply List.ext_getElem hl
 intro i h1 h2
 have := h i h1
 simpa [ati, h1, h2] using this
theorem IB {W T : Int} {cs : List Bool} {ls : List Int} (hy : AO W T cs ls = true) {k : Nat} (hk : k < ls.length) (hv : ati ls k ≠ 0) :
  1 ≤ ati ls k ∧ ati ls k ≤ 4 ∧ atb cs k = true ∧ 0 ≤ AJ W T k (ati ls k) ∧ atb cs (AJ W T k (ati ls k)) = true ∧ ati ls (AJ W T k (ati ls k)) = Ck (ati ls k) := by
 simp only [AO, Bool.and_eq_true, decide_eq_true_eq, Cl] at hy
 have := hy.2 k hk
 simp only [JX, decide_eq_true_eq] at this
 rcases this with h | h
 ·exact absurd h hv
 ·exact h
theorem An {W T : Int} {cs : List Bool} {ls : List Int} (hy : AO W T cs ls = true) : ls.length = cs.length := by
 simp only [AO, Bool.and_eq_true, decide_eq_true_eq] at hy; exact hy.1
theorem TO {W T : Int} {cs : List Bool} {ls : List Int} (hr : Az W T cs = true) (hy : AO W T cs ls = true) {k t : Nat} {way : Int} (hk : k < ls.length) (ht : AJ W T k way = t) (hv : ati ls t = Ck way) : ati ls k = way := by
 obtain ⟨w1, w2, t1, t2, l1, _⟩ := CK hr
 have hl := An hy
 obtain ⟨b1, b2, b3, b4, b5⟩ := DK (W := W) (T := T) (k := k) (way := way) w1 (by omega) (by omega) (by omega)
 obtain ⟨c1, c2, c3⟩ := HP b2 b3
 obtain ⟨_, _, _, _, _, g⟩ := IB hy (k := t) (by omega) (by omega)
 rw [hv, ← ht, b1, c1] at g
 exact g
theorem bV {W T : Int} {cs : List Bool} {b ls : List Int} {k : Nat} {way : Int} (hr : Az W T cs = true) (hb : b.length = cs.length) (hf : BU W T cs b k way = true) (hs : Jd b ls = true) (h1 : ati ls k = way) (h2 : ati ls (AJ W T k way) = Ck way) :
  Jd (C2 W T b k way) ls = true := by
 obtain ⟨t, e, t1, t2, t3, _, _, _, _, z1, z2, hat⟩ := E4 hr hb hf
 rw [e] at h2
 rw [hasB_iff] at hs ⊢
 intro j hj
 rw [AL] at hj
 rw [hat j]
 by_cases e1 : j = t
 ·subst e1; rw [if_pos rfl]; exact .inr h2
 rw [if_neg e1]
 by_cases e2 : j = k
 ·subst e2; rw [if_pos rfl]; exact .inr h1
 rw [if_neg e2]
 exact hs j hj
theorem bW {W T : Int} {cs : List Bool} {b ls : List Int} (hyb : AO W T cs b = true) (hyl : AO W T cs ls = true) (hs : Jd b ls = true) (h : EQ cs b < 0) : ls = b := by
 have hbl := An hyb
 have hll := An hyl
 refine gw (by omega) fun k hk => ?_
 rcases hasB_iff.1 hs k (by omega) with h1 | h1
 ·have h2 := VA h k (by omega)
  by_cases hv : ati ls k = 0
  ·omega
  ·obtain ⟨_, _, g, _⟩ := IB hyl hk hv
   simp [Ef, h1, g] at h2
 ·exact h1
theorem TP {W T : Int} {cs : List Bool} {b ls : List Int} (m n : Nat) (hyb : AO W T cs b = true) (hyl : AO W T cs ls = true) (hs : Jd b ls = true) (h : EQ cs b < 0) :
  (allT W T cs m b).filter (Jd ls) = allT W T cs n ls := by
 have e := bW hyb hyl hs h
 subst e
 rw [MI _ h, MI _ h]
 simp [KA]
theorem YQ {W T : Int} {cs : List Bool} (hr : Az W T cs = true) : ∀ (m : Nat) (b ls : List Int) (n : Nat), CF b ≤ m → CF ls ≤ n → AO W T cs b = true → AO W T cs ls = true → Jd b ls = true →
  (allT W T cs m b).filter (Jd ls) = allT W T cs n ls := by
 obtain ⟨w1, w2, t1, t2, l1, _⟩ := CK hr
 intro m
 induction m with
 | zero =>
   intro b ls n hzb hzl hyb hyl hs
   rcases E3 cs b with h | ⟨k, hk, he, hc, hzk⟩
   ·exact TP 0 n hyb hyl hs (by omega)
   ·have := MK hk hzk
    omega
 | succ m ih =>
   intro b ls n hzb hzl hyb hyl hs
   rcases E3 cs b with h | ⟨k, hk, he, hc, hzk⟩
   ·exact TP (m + 1) n hyb hyl hs (by omega)
   have hbl := An hyb
   have hll := An hyl
   have hk0 : ¬ (k : Int) < 0 := by omega
   have hmin : ∀ j, j < k → Ef cs b j = false := Zm he
   rw [allT, he, if_neg hk0, List.filter_append]
   by_cases hv : ati ls k = 0
   ·have hbk : EQ cs ls = k := by
     refine B5 (by omega) (by simp [Ef, hc, hv]) (fun j hj => ?_)
     have h1 := hmin j hj
     rcases hasB_iff.1 hs j (by omega) with h2 | h2
     ·simp [Ef, h2] at h1
      simp [Ef, h1]
     ·simp only [Ef] at h1 ⊢
      rw [h2]; exact h1
    have hzp := MK (ls := ls) (k := k) (by omega) hv
    obtain ⟨n', rfl⟩ : ∃ n', n = n' + 1 := ⟨n - 1, by omega⟩
    have stepA : ∀ way : Int, 1 ≤ way → way ≤ 4 → (if BU W T cs b k way then allT W T cs m (C2 W T b k way) else []).filter (Jd ls) = (if BU W T cs ls k way then allT W T cs n' (C2 W T ls k way) else []) := by
     intro way v1 v4
     by_cases hf : BU W T cs ls k way = true
     ·obtain ⟨t, e, a1, a2, a3, _, _, a6, a7, z1, z2, hat⟩ := E4 hr hll hf
      have hfb : BU W T cs b k way = true := by
       simp only [BU, decide_eq_true_eq] at hf ⊢
       obtain ⟨f0, f1, f2, f3, f4, f5, f6⟩ := hf
       refine ⟨f0, by omega, f2, f3, f4, hzk, ?_⟩
       rw [e]
       rcases hasB_iff.1 hs t (by omega) with h2 | h2
       ·exact h2
       ·rw [← h2]; exact z2
      rw [if_pos hf, if_pos hfb]
      have hzb' : CF (C2 W T b k way) < CF b := H9 hk hzk v1 v4
      have hzl' : CF (C2 W T ls k way) < CF ls := H9 (by omega) hv v1 v4
      obtain ⟨t', e', _, _, _, _, _, _, _, y1, y2, hatb⟩ := E4 hr hbl hfb
      have et : t' = t := by omega
      subst et
      have hs' : Jd (C2 W T b k way) (C2 W T ls k way) = true := by
       rw [hasB_iff]
       intro j hj
       rw [AL] at hj
       rw [hatb j, hat j]
       by_cases e1 : j = t'
       ·rw [if_pos e1, if_pos e1]; exact .inr rfl
       by_cases e2 : j = k
       ·rw [if_neg e1, if_neg e1, if_pos e2, if_pos e2]; exact .inr rfl
       rw [if_neg e1, if_neg e1, if_neg e2, if_neg e2]
       exact hasB_iff.1 hs j hj
      rw [← ih _ _ n' (by omega) (by omega) (NC hr hyb hfb) (NC hr hyl hf) hs']
      apply List.filter_congr
      intro p hp
      have hp1 := hasB_iff.1 (WI hr m _ (by rw [AL]; exact hbl) p hp)
      rw [Bool.eq_iff_iff, hasB_iff, hasB_iff]
      constructor
      ·intro h j hj
       rw [AL] at hj
       rw [hat j]
       by_cases e1 : j = t'
       ·have h5 := hp1 j (by rw [AL]; omega)
        rw [hatb j, if_pos e1] at h5
        rw [if_pos e1]; exact h5
       by_cases e2 : j = k
       ·have h5 := hp1 j (by rw [AL]; omega)
        rw [hatb j, if_neg e1, if_pos e2] at h5
        rw [if_neg e1, if_pos e2]; exact h5
       rw [if_neg e1, if_neg e2]
       exact h j hj
      ·intro h j hj
       have h3 := h j (by rw [AL]; exact hj)
       rw [hat j] at h3
       by_cases e1 : j = t'
       ·subst e1; exact .inl z2
       by_cases e2 : j = k
       ·subst e2; exact .inl z1
       rw [if_neg e1, if_neg e2] at h3
       exact h3
     ·rw [if_neg hf]
      by_cases hfb : BU W T cs b k way = true
      ·rw [if_pos hfb, List.filter_eq_nil_iff]
       intro p hp hh
       obtain ⟨t, e, a1, a2, a3, _, _, a6, a7, y1, y2, hatb⟩ := E4 hr hbl hfb
       have hp1 := hasB_iff.1 (WI hr m _ (by rw [AL]; exact hbl) p hp) t (by rw [AL]; exact a1)
       rw [hatb t, if_pos rfl] at hp1
       have hb4 := (HP v1 v4).2
       have hpt : ati p t = Ck way := by omega
       have hlt : ati ls t ≠ 0 := by
        intro h0
        apply hf
        simp only [BU, decide_eq_true_eq] at hfb ⊢
        obtain ⟨f0, f1, f2, f3, f4, _, _⟩ := hfb
        refine ⟨f0, f1, f2, f3, f4, hv, ?_⟩
        rw [e]; exact h0
       have hl2 := hasB_iff.1 hh t (by omega)
       have hl3 : ati ls t = Ck way := by omega
       have := TO hr hyl (k := k) (t := t) (way := way) (by omega) e hl3
       omega
      ·rw [if_neg hfb]; rfl
    rw [stepA 1 (by omega) (by omega), stepA 2 (by omega) (by omega), allT.eq_2, hbk, if_neg hk0]
   ·obtain ⟨v1, v4, g3, g4, g5, g6⟩ := IB hyl (k := k) (by omega) hv
    obtain ⟨v, hvv⟩ : ∃ v, ati ls k = v := ⟨_, rfl⟩
    rw [hvv] at v1 v4 g4 g5 g6 hv
    obtain ⟨_, _, _, _, b5⟩ := DK (W := W) (T := T) (k := k) (way := v) w1 (by omega) (by omega) g4
    obtain ⟨t, ht⟩ : ∃ t : Nat, AJ W T k v = t := ⟨(AJ W T k v).toNat, by omega⟩
    have hbt : ati b t = 0 := by
     rcases hasB_iff.1 hs t (by omega) with h | h
     ·exact h
     ·exfalso
      rw [ht] at g6
      have := TO hr hyb (k := k) (t := t) (way := v) hk ht (by rw [← h]; exact g6)
      omega
    have h12 : v = 1 ∨ v = 2 := by
     by_cases h3 : v ≤ 2
     ·omega
     exfalso
     have hlt : t < k := by
      unfold AJ at ht
      have h4 : v = 3 ∨ v = 4 := by omega
      rcases h4 with rfl | rfl
      ·simp at ht
       split at ht <;> omega
      ·simp at ht
       split at ht <;> omega
     have h1 := hmin t hlt
     rw [ht] at g5
     simp [Ef, g5] at h1
     exact h1 hbt
    have hfb : BU W T cs b k v = true := by
     simp only [BU, decide_eq_true_eq]
     exact ⟨by omega, by omega, g4, hc, g5, hzk, by rw [ht]; exact hbt⟩
    have hzb' : CF (C2 W T b k v) < CF b := H9 hk hzk v1 v4
    have hA := ih (C2 W T b k v) ls n (by omega) hzl (NC hr hyb hfb) hyl (bV hr hbl hfb hs hvv g6)
    have other : ∀ w : Int, w ≠ v → (if BU W T cs b k w then allT W T cs m (C2 W T b k w) else []).filter (Jd ls) = [] := by
     intro w hw
     split
     ·rename_i hfw
      rw [List.filter_eq_nil_iff]
      intro p hp hh
      obtain ⟨t', e, a1, a2, a3, a4, a5, _, _, _, _, hatb⟩ := E4 hr hbl hfw
      have hp1 := hasB_iff.1 (WI hr m _ (by rw [AL]; exact hbl) p hp) k (by rw [AL]; exact hk)
      rw [hatb k, if_neg (fun e => a3 e.symm), if_pos rfl] at hp1
      have h7 := hasB_iff.1 hh k (by omega)
      rw [hvv] at h7
      omega
     ·rfl
    rcases h12 with rfl | rfl
    ·rw [other 2 (by omega), if_pos hfb, hA, List.append_nil]
    ·rw [other 1 (by omega), if_pos hfb, hA, List.nil_append]
theorem dg {W T : Int} {cs : List Bool} {ds ls : List Int} (hok : okB W T cs ds ls = true) : (allT W T cs cs.length ls).filter (fun t => Jp (Bx W T ds t)) = (C9 W T cs ds).filter (Jd ls) := by
 have hok' := hok
 simp only [okB, Bool.and_eq_true] at hok'
 obtain ⟨hr, hd, hy⟩ := hok'
 have hl := An hy
 have hz : CF ls ≤ cs.length := by have := JD ls; omega
 have hn : (BO cs).length = cs.length := by simp [BO]
 have hzn : CF (BO cs) ≤ cs.length := by have := JD (BO cs); omega
 rw [bU (by simp only [hr, hd, Bool.and_self]), G3, if_pos hr, List.filter_filter]
 rw [← YQ hr cs.length (BO cs) ls cs.length hzn hz (Pn W T cs) hy (hasB_iff.2 fun k _ => .inl (WG cs k)), List.filter_filter]
 congr 1
 funext t
 exact Bool.and_comm _ _
def clr (G : Nat → Bool) (j : Nat) : Nat → Bool := fun i => G i && !(decide (i = j))
def i8 (W T : Int) : Nat → Nat → (Nat → Bool) → Nat
 | 0, _, _ => 1
 | f + 1, c, G => if G c = true then (if 0 ≤ AJ W T c 1 ∧ G (c + 1) = true then i8 W T f (c + 1) (clr G (c + 1)) else 0) + (if 0 ≤ AJ W T c 2 ∧ G (c + W.toNat) = true then i8 W T f (c + 1) (clr G (c + W.toNat)) else 0)
   else i8 W T f (c + 1) G
def mL (F : Nat → Bool) (c s : Nat) : Nat → Bool := fun i => F i && !(s.testBit (i - c))
def jA (g : Nat → Nat) (P : List (Nat × Nat)) : Nat := (P.map fun p => p.2 * g p.1).sum
structure OkP (W T : Int) (F : Nat → Bool) (n c tot : Nat) (P : List (Nat × Nat)) : Prop where
 lt : ∀ p ∈ P, p.1 < 2 ^ W.toNat ∧ p.1 < 2 ^ (n - c)
 tot : jA (fun s => i8 W T (n - c) c (mL F c s)) P = tot
 sum : jA (fun _ => 1) P ≤ 2 ^ c
 len : P.length ≤ 2 ^ c
structure MidP (W T : Int) (F : Nat → Bool) (n c : Nat) (P : List (Nat × Nat)) (k : Nat) (Q : List (Nat × Nat)) : Prop where
 lt : ∀ p ∈ Q, p.1 < 2 ^ W.toNat ∧ p.1 < 2 ^ (n - (c + 1))
 tot : jA (fun s => i8 W T (n - (c + 1)) (c + 1) (mL F (c + 1) s)) Q = jA (fun s => i8 W T (n - c) c (mL F c s)) (P.take k)
 sum : jA (fun _ => 1) Q ≤ 2 * jA (fun _ => 1) (P.take k)
 len : Q.length ≤ 2 * k
end Go.Proofs.Dev
