/- Contracts of the functions of the program over slots and rows, each proved against the program itself; no condition beyond those that each theorem names. -/
import Derived.Test.YtfkmfobbgoflgaaGreatDoorAP
import Derived.Test.YtfkmfobbgoflgaaGreatDoorProg
import Derived.Test.YtfkmfobbgoflgaaGreatDoorAH
set_option linter.unusedSimpArgs false
set_option linter.unusedVariables false
set_option maxRecDepth 100000
namespace Go.Proofs.Dev
@[simp] abbrev Eg : Nat := 208
def Eh : ACode := .seq (.reg [.o 5 .mv [.kb false]]) <| .seq (.seq (.reg [.la 6 3 1, .l 7 2, .m 8 0, .o 9 (.call 137 []) [.t 6, .t 7, .t 8]]) <| .cond (.t 9) ( .reg [.l 10 3, .m 11 0, .o 12 (.bsl 1) [.t 11], .o 13 (.app 1 24 false) [.t 10, .t 12], .s (.store 1) [.t 3, .t 13]]) ( .skip)) <| .seq (.reg [.o 5 .mv [.kb true]]) <| .ret
theorem Je : cFn Tryz.prog Eg 14 [.t 5] Eh := ⟨Tryz.f208, _, Tryz.func208, rfl, by kernel_rfl, by kernel_rfl, by kernel_rfl, by kernel_rfl⟩
@[simp] abbrev Dh : Nat := 207
def Bf : ACode := .seq (.seq (.reg [.m 10 7, .m 11 1, .n 12 11, .o 13 (.bin .lss 0) [.t 10, .t 12], .m 14 13, .fg 15 2 3 14 true, .lg 16 15 14 true, .mg 17 7 14 true, .g 18 (.iadr 1) [.t 16, .t 17] 14 true, .lg 19 18 14 true, .g 20 (.un .not) [.t 19] 14 true, .mg 21 20 14 true, .mg 22 1 21 false, .mg 23 7 21 false, .g 24 (.iadr 1) [.t 22, .t 23] 21 false, .lg 25 24 21 false, .g 26 (.bin .neq 0) [.t 25, .k 0] 21 false, .g 27 .pick [.t 21, .kb true, .t 26] 14 true, .o 28 .pick [.t 14, .t 27, .kb false]]) <| .cond (.t 28) ( .skip) ( .exit 0)) <| .block 1 ( .reg [.m 29 7, .o 30 (.bin .add 0) [.t 29, .k 1], .m 7 30])
abbrev E5 : Plan := .al (.g 57 (.call 207 []) [.t 50, .t 55, .t 56] 49 true) ( .take (.g 58 (.un .not) [.t 57] 49 true) <| .take (.o 59 .pick [.t 49, .t 58, .kb false]) <| .done)
abbrev E6 : Plan := .al (.g 55 (.call 235 []) [.t 51, .t 52, .t 53, .t 54] 49 true) E5
def CY : ACode := .seq (.reg [.o 41 (.bin .lss 0) [.t 40, .t 39]]) <| .seq (.cond (.t 41) ( .skip) ( .exit 2)) <| .seq (.block 3 ( .seq (.reg [.o 42 (.iadr 1) [.t 38, .t 40], .l 43 42, .m 9 43]) <| .seq (.draw ( .take (.m 45 1) <| .take (.m 46 7) <| .take (.m 47 9) <| .al (.la 44 3 3) ( .al (.o 48 (.call 234 []) [.t 44, .t 45, .t 46, .t 47]) ( .take (.m 49 48) <| .take (.mg 52 1 49 true) <| .take (.mg 53 7 49 true) <| .take (.mg 54 9 49 true) <| .take (.mg 56 2 49 true) <| .alt (.g 50 (.load true 3) [.t 3] 49 true) ( .al (.g 51 (.load true 3) [.t 3] 49 true) E6) <| .al (.g 51 (.load true 3) [.t 3] 49 true) ( .alt (.g 50 (.load true 3) [.t 3] 49 true) E6 <| .al (.g 55 (.call 235 []) [.t 51, .t 52, .t 53, .t 54] 49 true) ( .al (.g 50 (.load true 3) [.t 3] 49 true) E5)))))) <| .cond (.t 59) ( .seq (.reg [.o 6 .mv [.kb false]]) <| .ret) ( .skip))) <| .reg [.o 60 (.bin .add 0) [.t 40, .k 1], .m 40 60]
def JL : ACode := .seq (.reg [.o 3 .box [.t 0], .o 6 .mv [.kb false]]) <| .seq (.reg [.o 7 .mv [.k 0]]) <| .seq (.block 0 ( .loop [(1, 1)] [1, 2, 3, 7, 63] Bf)) <| .seq (.seq (.reg [.m 31 7, .m 32 1, .n 33 32, .o 34 (.bin .eql 0) [.t 31, .t 33]]) <| .cond (.t 34) ( .seq (.reg [.m 35 2, .m 36 1, .o 37 (.callv []) [.t 35, .t 36], .m 6 37]) <| .ret) ( .skip)) <| .seq (.seq (.reg [.o 38 (.bsl 1) [.k 1, .k 2], .n 39 38, .o 40 .mv [.k 0]]) <| .block 2 ( .loop [(1, 1), (38, 1)] [1, 2, 3, 7, 38, 39, 40, 63] CY)) <| .seq (.reg [.o 6 .mv [.kb true]]) <| .ret
theorem Pp : cFn Tryz.prog Dh 61 [.t 6] JL := ⟨Tryz.f207, _, Tryz.func207, rfl, by kernel_rfl, by kernel_rfl, by kernel_rfl, by kernel_rfl⟩
@[simp] abbrev DA : Nat := 157
def EL : ACode := .seq (.reg [.l 13 7, .o 14 (.call 188 []) [.t 13], .m 6 14]) <| .ret
def FU : ACode := .seq (.reg [.o 3 .box [.t 0], .o 4 .box [.t 1], .o 6 .mv [.c (.os 1 [])]]) <| .seq (.reg [.o 7 (.alloc [.os 1 []]) []]) <| .seq (.draw ( .take (.m 9 2) <| .take (.o 11 (.mkfn 208) [.t 3, .t 4, .t 7]) <| .alt (.la 8 3 3) ( .al (.o 10 (.call 126 []) [.t 9]) ( .al (.o 12 (.call 207 []) [.t 8, .t 10, .t 11]) ( .done))) <| .al (.o 10 (.call 126 []) [.t 9]) ( .al (.la 8 3 3) ( .al (.o 12 (.call 207 []) [.t 8, .t 10, .t 11]) ( .done))))) <| .gc [] [7] EL
theorem Kh : cFn Tryz.prog DA 15 [.t 6] FU := ⟨Tryz.f157, _, Tryz.func157, rfl, by kernel_rfl, by kernel_rfl, by kernel_rfl, by kernel_rfl⟩
def bX (W T : Int) (ds t : List Int) : List (List Int) := if Jp (Bx W T ds t) then [t] else []
@[simp] def md2 (f : Nat) : List Bool := if f = 207 then [false, true, true] else if f = 208 then [true, true, true, true] else md0 f
def GH (W T : Int) (ds : List Int) (ps : List (List Int)) : List (List Int) := ps.filter fun t => Jp (Bx W T ds t)
theorem bZ (W T : Int) (ds t : List Int) : GH W T ds [t] = bX W T ds t := by
 unfold GH bX
 cases h : Jp (Bx W T ds t) <;> simp [h]
theorem RI (W T : Int) (ds : List Int) (a b : List (List Int)) : GH W T ds (a ++ b) = GH W T ds a ++ GH W T ds b := by simp [GH]
theorem RJ (W T : Int) (ds : List Int) (a : List (List Int)) : (GH W T ds a).length ≤ a.length := List.length_filter_le _ _
theorem OI (W T : Int) (cs : List Bool) (ds t : List Int) (acc : List (List Int)) (hok : okB W T cs ds t = true) (ha : acc.length < 2 ^ 38) :
  SoundAt Tryz.prog Eg [.os 1 (AB t), .op [.v (.int .i64 W), .v (.int .i64 T), .sl 0 1 (AC cs)], .op [.sl 0 1 (AB ds)], .op [.os 1 (oss acc)]]
   (.v (.bool true)) [.bot, .op [.v (.int .i64 W), .v (.int .i64 T), .sl 0 1 (AC cs)], .op [.sl 0 1 (AB ds)], .op [.os 1 (oss (acc ++ bX W T ds t))]] := by
 refine AE (md := md0) (ms := [false, true, true, true]) Je (by simp) ?_
 simp [Eh]
 refine AA (Db W T cs ds t hok) ?_
 cases ho : Jp (Bx W T ds t) with
 | false =>
   simp [bX, ho]
 | true =>
   simp [bX, ho]
   refine ⟨by omega, ?_⟩
   rw [J4, Qd]
   exact List.take_of_length_le (by simp)
@[simp] theorem kK (xs : List Int) (i : Nat) (h : i < (AB xs).length) : (AB xs)[i] = .v (.int .i64 (ati xs i)) := by
  have h2 : i < xs.length := by simpa using h
  simp [AB, ati, h2]
theorem mM : aN Tryz.prog 208 = true := by kernel_rfl
def WJ (W T : Int) (cs : List Bool) (ds ls : List Int) (acc : List (List Int)) : AH :=
 [some (.arr 1 (AB ls)), some (.box [.v (.int .i64 W), .v (.int .i64 T), .sl 0 1 (AC cs)]), some (.box [.sl 0 1 (AB ds)]), some (.box [.ls 1 5 0 acc.length]),
  some (.box [.v (.int .i64 W), .v (.int .i64 T), .sl 1 1 (AC cs)]), some (.arr 1 (oss acc))]
def ML (W T : Int) (cs : List Bool) (ds ls : List Int) (acc : List (List Int)) : AH :=
 [some (.arr 1 (AB ls)), some (.box [.v (.int .i64 W), .v (.int .i64 T), .sl 0 1 (AC cs)]), some (.box [.sl 0 1 (AB ds)]), some (.box [.ls 1 6 0 acc.length]),
  some (.box [.v (.int .i64 W), .v (.int .i64 T), .sl 1 1 (AC cs)]), some (.arr 1 [.v (.int .i64 1), .v (.int .i64 2)]), some (.arr 1 (oss acc))]
theorem ba (W T : Int) (cs : List Bool) (ds : List Int) (hr : Az W T cs = true) (hd : Cd cs ds = true) (n : Nat)
  (ih : ∀ m, n = m + 1 → ∀ (ls : List Int) (acc : List (List Int)), CF ls ≤ m → AO W T cs ls = true → acc.length + 2 ^ m ≤ 2 ^ 37 →
   SoundAt Tryz.prog Dh [.agg [.v (.int .i64 W), .v (.int .i64 T), .sl 1 1 (AC cs)], .os 1 (AB ls), .fn 208 [.op [.v (.int .i64 W), .v (.int .i64 T), .sl 0 1 (AC cs)], .op [.sl 0 1 (AB ds)], .op [.os 1 (oss acc)]]]
    (.v (.bool true)) [.bot, .bot, .fn 208 [.op [.v (.int .i64 W), .v (.int .i64 T), .sl 0 1 (AC cs)], .op [.sl 0 1 (AB ds)], .op [.os 1 (oss (acc ++ GH W T ds (allT W T cs m ls)))]]])
  (ls : List Int) (acc : List (List Int)) (hz : CF ls ≤ n) (hy : AO W T cs ls = true) (ha : acc.length + 2 ^ n ≤ 2 ^ 37) :
  SoundAt Tryz.prog Dh [.agg [.v (.int .i64 W), .v (.int .i64 T), .sl 1 1 (AC cs)], .os 1 (AB ls), .fn 208 [.op [.v (.int .i64 W), .v (.int .i64 T), .sl 0 1 (AC cs)], .op [.sl 0 1 (AB ds)], .op [.os 1 (oss acc)]]]
   (.v (.bool true)) [.bot, .bot, .fn 208 [.op [.v (.int .i64 W), .v (.int .i64 T), .sl 0 1 (AC cs)], .op [.sl 0 1 (AB ds)], .op [.os 1 (oss (acc ++ GH W T ds (allT W T cs n ls)))]]] := by
 have h36 := AZ hr
 have hl : ls.length = cs.length := by simp only [AO, Bool.and_eq_true, decide_eq_true_eq] at hy; exact hy.1
 have hok : okB W T cs ds ls = true := by simp only [okB, hr, hd, hy, Bool.and_self]
 have hp : 0 < 2 ^ n := Nat.pow_pos (by omega)
 have hac : acc.length < 2 ^ 38 := Nat.lt_of_le_of_lt (Nat.le_trans (Nat.le_add_right _ _) ha) (by decide)
 refine AE (md := md2) (ms := [false, false, true]) Pp (by simp) ?_
 simp [JL]
 refine AF (fun m E H => ∃ i : Nat, m = ls.length - i ∧ i ≤ ls.length ∧ (∀ j : Nat, j < i → Ef cs ls j = false) ∧ H = WJ W T cs ds ls acc ∧
  E = [(1, .ls 1 0 0 ls.length), (2, .fn 208 [.lp 0 1 0 0, .lp 0 2 0 0, .lp 0 3 0 0]), (3, .lp 0 4 0 0), (7, .v (.int .i64 i)), (63, .fn 208 [.lp 0 1 0 0, .lp 0 2 0 0, .lp 0 3 0 0])]) ls.length ⟨0, by simp [WJ]⟩ ?_
 rintro J hJ m E H ⟨i, rfl, hi, hb, rfl, rfl⟩
 by_cases h : i < ls.length
 case neg =>
  have hi' : i = ls.length := by omega
  subst hi'
  have he : EQ cs ls = -1 := Bk hb
  simp [Bf, WJ]
  refine ⟨mM, AA (OI W T cs ds ls acc hok hac) ?_⟩
  simp [MI n (show EQ cs ls < 0 by omega), bZ]
  exact List.take_of_length_le (by simp)
 have next : Ef cs ls i = false → Cz J (ls.length - i) [(1, .ls 1 0 0 ls.length), (2, .fn 208 [.lp 0 1 0 0, .lp 0 2 0 0, .lp 0 3 0 0]), (3, .lp 0 4 0 0), (7, .v (.int .i64 (i + 1))), (63, .fn 208 [.lp 0 1 0 0, .lp 0 2 0 0, .lp 0 3 0 0])]
   (WJ W T cs ds ls acc) := by
  intro hx
  refine ⟨_, by omega, hJ _ _ _ ⟨i + 1, rfl, h, ?_, rfl, rfl⟩⟩
  intro j hj
  rcases Nat.lt_or_ge j i with h1 | h1
  ·exact hb j h1
  ·have : j = i := by omega
   subst this; exact hx
 have h2 : i < cs.length := by omega
 cases hc : atb cs i with
 | false =>
   have nx := next (by simp [Ef, hc])
   simp [WJ] at nx
   simp [Bf, WJ, h, h2, hc]
   exact ⟨by omega, nx⟩
 | true =>
 by_cases z : ati ls i = 0
 case neg =>
  have nx := next (by simp [Ef, z])
  simp [WJ] at nx
  simp [Bf, WJ, h, h2, hc, z]
  exact ⟨by omega, nx⟩
 have he : EQ cs ls = i := B5 h (by simp [Ef, hc, z]) hb
 have hzp := MK h z
 obtain ⟨n', rfl⟩ : ∃ n', n = n' + 1 := ⟨n - 1, by omega⟩
 have hk0 : ¬ (i : Int) < 0 := by omega
 have hall : allT W T cs (n' + 1) ls = Pk W T cs n' ls i 2 := by
  rw [allT, he, if_neg hk0]
  simp [Pk, MJ, List.range_succ]
 rw [hall]
 have hne : ¬ ((i : Int) = ls.length) := by omega
 simp [Bf, WJ, h, h2, hc, z, hne]
 have b1 := OG W T cs n' ls i
 have hpow : 2 ^ (n' + 1) = 2 * 2 ^ n' := by rw [Nat.pow_succ]; omega
 refine AF (fun m E H => ∃ j : Nat, m = 2 - j ∧ j ≤ 2 ∧ H = ML W T cs ds ls (acc ++ GH W T ds (Pk W T cs n' ls i j)) ∧
  E = [(1, .ls 1 0 0 ls.length), (2, .fn 208 [.lp 0 1 0 0, .lp 0 2 0 0, .lp 0 3 0 0]), (3, .lp 0 4 0 0), (7, .v (.int .i64 i)), (38, .ls 1 5 0 2), (39, .v (.int .i64 2)), (40, .v (.int .i64 j)), (63, .fn 208 [.lp 0 1 0 0, .lp 0 2 0 0, .lp 0 3 0 0])]) 2 ⟨0, by simp [ML, Pk, GH]⟩ ?_
 rintro J2 hJ2 m2 E2 H2 ⟨j, rfl, hj, rfl, rfl⟩
 by_cases h3 : j < 2
 case neg =>
  have : j = 2 := by omega
  subst this
  simp [CY, ML]
  exact List.take_of_length_le (by simp)
 have h01 : j = 0 ∨ j = 1 := by omega
 rcases h01 with rfl | rfl
 ·have hsuc : Pk W T cs n' ls i (0 + 1) = Pk W T cs n' ls i 0 ++ MJ W T cs n' ls i 1 := by simpa using Pm W T cs n' ls i 0
  have bl := b1 0
  have kl := RJ W T ds (Pk W T cs n' ls i 0)
  have hlen : (acc ++ GH W T ds (Pk W T cs n' ls i 0)).length + 2 ^ n' ≤ 2 ^ 37 := by rw [List.length_append]; omega
  have next2 : ∀ x, MJ W T cs n' ls i 1 = x → Cz J2 (2 - 0) [(1, .ls 1 0 0 ls.length), (2, .fn 208 [.lp 0 1 0 0, .lp 0 2 0 0, .lp 0 3 0 0]), (3, .lp 0 4 0 0), (7, .v (.int .i64 i)), (38, .ls 1 5 0 2), (39, .v (.int .i64 2)), (40, .v (.int .i64 1)), (63, .fn 208 [.lp 0 1 0 0, .lp 0 2 0 0, .lp 0 3 0 0])]
    (ML W T cs ds ls ((acc ++ GH W T ds (Pk W T cs n' ls i 0)) ++ GH W T ds x)) := by
   rintro x rfl
   refine ⟨_, by omega, hJ2 _ _ _ ⟨0 + 1, rfl, by omega, ?_, rfl⟩⟩
   rw [hsuc, RI, List.append_assoc]
  generalize hA : acc ++ GH W T ds (Pk W T cs n' ls i 0) = A at *
  simp [CY, ML]
  refine AA (Dd W T cs ls i 1 hr hl) ?_
  cases hf : BU W T cs ls i 1 with
  | false =>
    have nx := next2 [] (by simp [MJ, hf])
    simp [ML, GH] at nx
    simp
    exact nx
  | true =>
    have nx := next2 (allT W T cs n' (C2 W T ls i 1)) (by simp [MJ, hf])
    have hzl : CF (C2 W T ls i 1) < CF ls := H9 h z (by omega) (by omega)
    have rcr := ih n' rfl (C2 W T ls i 1) A (by omega) (NC hr hy hf) hlen
    have hll := AL W T ls i 1
    simp [ML] at nx
    simp
    (repeat' first | assumption | omega | apply And.intro) <;>
    ·refine AA (Cv W T cs ls i 1 hr hl hf) ?_
     simp [hll]
     (repeat' first | assumption | omega | apply And.intro) <;>
     ·refine AA rcr ?_
      simp [hll]
      exact nx
 ·have hsuc : Pk W T cs n' ls i (1 + 1) = Pk W T cs n' ls i 1 ++ MJ W T cs n' ls i 2 := by simpa using Pm W T cs n' ls i 1
  have bl := b1 1
  have kl := RJ W T ds (Pk W T cs n' ls i 1)
  have hlen : (acc ++ GH W T ds (Pk W T cs n' ls i 1)).length + 2 ^ n' ≤ 2 ^ 37 := by rw [List.length_append]; omega
  have next2 : ∀ x, MJ W T cs n' ls i 2 = x → Cz J2 (2 - 1) [(1, .ls 1 0 0 ls.length), (2, .fn 208 [.lp 0 1 0 0, .lp 0 2 0 0, .lp 0 3 0 0]), (3, .lp 0 4 0 0), (7, .v (.int .i64 i)), (38, .ls 1 5 0 2), (39, .v (.int .i64 2)), (40, .v (.int .i64 2)), (63, .fn 208 [.lp 0 1 0 0, .lp 0 2 0 0, .lp 0 3 0 0])]
    (ML W T cs ds ls ((acc ++ GH W T ds (Pk W T cs n' ls i 1)) ++ GH W T ds x)) := by
   rintro x rfl
   refine ⟨_, by omega, hJ2 _ _ _ ⟨1 + 1, rfl, by omega, ?_, rfl⟩⟩
   rw [hsuc, RI, List.append_assoc]
  generalize hA : acc ++ GH W T ds (Pk W T cs n' ls i 1) = A at *
  simp [CY, ML]
  refine AA (Dd W T cs ls i 2 hr hl) ?_
  cases hf : BU W T cs ls i 2 with
  | false =>
    have nx := next2 [] (by simp [MJ, hf])
    simp [ML, GH] at nx
    simp
    exact nx
  | true =>
    have nx := next2 (allT W T cs n' (C2 W T ls i 2)) (by simp [MJ, hf])
    have hzl : CF (C2 W T ls i 2) < CF ls := H9 h z (by omega) (by omega)
    have rcr := ih n' rfl (C2 W T ls i 2) A (by omega) (NC hr hy hf) hlen
    have hll := AL W T ls i 2
    simp [ML] at nx
    simp
    (repeat' first | assumption | omega | apply And.intro) <;>
    ·refine AA (Cv W T cs ls i 2 hr hl hf) ?_
     simp [hll]
     (repeat' first | assumption | omega | apply And.intro) <;>
     ·refine AA rcr ?_
      simp [hll]
      exact nx
theorem YR (W T : Int) (cs : List Bool) (ds : List Int) (hr : Az W T cs = true) (hd : Cd cs ds = true) : ∀ (n : Nat) (ls : List Int) (acc : List (List Int)), CF ls ≤ n → AO W T cs ls = true → acc.length + 2 ^ n ≤ 2 ^ 37 →
  SoundAt Tryz.prog Dh [.agg [.v (.int .i64 W), .v (.int .i64 T), .sl 1 1 (AC cs)], .os 1 (AB ls), .fn 208 [.op [.v (.int .i64 W), .v (.int .i64 T), .sl 0 1 (AC cs)], .op [.sl 0 1 (AB ds)], .op [.os 1 (oss acc)]]]
   (.v (.bool true)) [.bot, .bot, .fn 208 [.op [.v (.int .i64 W), .v (.int .i64 T), .sl 0 1 (AC cs)], .op [.sl 0 1 (AB ds)], .op [.os 1 (oss (acc ++ GH W T ds (allT W T cs n ls)))]]] := by
 intro n
 induction n with
 | zero => intro ls acc h1 h2 h3; exact ba W T cs ds hr hd 0 (fun m h => by omega) ls acc h1 h2 h3
 | succ n ih =>
   intro ls acc h1 h2 h3
   refine ba W T cs ds hr hd (n + 1) (fun m h => ?_) ls acc h1 h2 h3
   have : m = n := by omega
   subst this
   exact ih
@[simp] abbrev FV : Nat := 188
def FW : ACode := .seq (.reg [.o 2 .mv [.c (.os 1 [])]]) <| .seq (.reg [.m 3 0, .m 4 0, .n 5 4, .m 6 0, .n 7 6, .o 8 (.slice 1 false false true true) [.t 3, .t 5, .t 7], .m 2 8]) <| .ret
theorem JM : cFn Tryz.prog FV 9 [.t 2] FW := ⟨Tryz.f188, _, Tryz.func188, rfl, by kernel_rfl, by kernel_rfl, by kernel_rfl, by kernel_rfl⟩
@[simp] abbrev IC : Nat := 177
def ID : ACode := .seq (.reg [.o 3 .box [.t 0], .o 6 .mv [.c (.os 1 [])], .o 7 .mv [.kb false]]) <| .seq (.reg [.la 9 3 3, .m 10 1, .m 11 2, .o 12 (.call 157 []) [.t 9, .t 10, .t 11], .m 8 12]) <| .seq (.seq (.reg [.m 13 8, .n 14 13, .o 15 (.bin .eql 0) [.t 14, .k 0]]) <| .cond (.t 15) ( .seq (.reg [.o 6 .mv [.c (.os 1 [])], .o 7 .mv [.kb false]]) <| .ret) ( .skip)) <| .seq (.own [(.op, .m 16 8), (.op, .o 17 (.iadr 1) [.t 16, .k 0]), (.take, .l 18 17), (.op, .m 6 18), (.op, .o 7 .mv [.kb true])]) <| .ret
theorem OJ : cFn Tryz.prog IC 19 [.t 6, .t 7] ID := ⟨Tryz.f177, _, Tryz.func177, rfl, by kernel_rfl, by kernel_rfl, by kernel_rfl, by kernel_rfl⟩
@[simp] abbrev KB : Nat := 185
def KC : ACode := .seq (.reg [.o 3 .box [.t 0], .o 6 .mv [.c (.os 1 [])], .o 7 .mv [.kb false]]) <| .seq (.seq (.reg [.la 8 3 3, .m 9 1, .m 10 2, .o 11 (.call 98 []) [.t 8, .t 9, .t 10], .o 12 (.un .not) [.t 11]]) <| .cond (.t 12) ( .seq (.reg [.o 6 .mv [.c (.os 1 [])], .o 7 .mv [.kb false]]) <| .ret) ( .skip)) <| .seq (.reg [.la 13 3 3, .m 14 1, .m 15 2, .o 16 (.call 177 []) [.t 13, .t 14, .t 15], .e 17 0 16, .e 18 1 16, .m 6 17, .m 7 18]) <| .ret
theorem Qi : cFn Tryz.prog KB 19 [.t 6, .t 7] KC := ⟨Tryz.f185, _, Tryz.func185, rfl, by kernel_rfl, by kernel_rfl, by kernel_rfl, by kernel_rfl⟩
@[simp] abbrev Pq : Nat := 133
def El : ACode := .seq (.seq (.reg [.m 25 11, .m 26 2, .n 27 26, .o 28 (.bin .lss 0) [.t 25, .t 27], .m 29 28, .mg 30 10 29 true, .g 31 (.bin .lss 0) [.t 30, .k 0] 29 true, .o 32 .pick [.t 29, .t 31, .kb false]]) <| .cond (.t 32) ( .skip) ( .exit 0)) <| .seq (.block 1 ( .seq (.reg [.la 35 3 3, .m 36 2, .m 37 11, .o 38 (.call 186 []) [.t 35, .t 36, .t 37]]) <| .cond (.t 38) ( .reg [.m 39 11, .m 10 39]) ( .skip))) <| .reg [.m 33 11, .o 34 (.bin .add 0) [.t 33, .k 1], .m 11 34]
def Pr : ACode := .seq (.reg [.o 3 .box [.t 0], .o 6 .mv [.k 0], .o 7 .mv [.k 0]]) <| .seq (.reg [.la 13 3 3, .m 14 1, .m 15 2, .o 16 (.call 185 []) [.t 13, .t 14, .t 15], .m 12 16, .e 17 0 12, .e 18 1 12, .m 8 17, .m 9 18]) <| .seq (.seq (.reg [.m 19 9, .o 20 (.un .not) [.t 19]]) <| .cond (.t 20) ( .seq (.reg [.o 6 .mv [.k (-1)], .o 7 .mv [.k 0]]) <| .ret) ( .skip)) <| .seq (.reg [.la 21 3 3, .m 22 1, .m 23 2, .o 24 (.call 184 []) [.t 21, .t 22, .t 23, .k 1], .m 10 24]) <| .seq (.seq (.reg [.o 11 .mv [.k 0]]) <| .block 0 ( .loop [(2, 1), (8, 1)] [2, 3, 8, 10, 11] El)) <| .seq (.seq (.reg [.m 40 10, .o 41 (.bin .lss 0) [.t 40, .k 0]]) <| .cond (.t 41) ( .seq (.reg [.o 6 .mv [.k (-1)], .o 7 .mv [.k 0]]) <| .ret) ( .skip)) <| .seq (.draw ( .take (.m 42 10) <| .take (.m 43 8) <| .take (.m 44 10) <| .take (.o 45 (.iadr 1) [.t 43, .t 44]) <| .take (.m 6 42) <| .al (.l 46 45) ( .take (.m 7 46) <| .done))) <| .ret
theorem WK : cFn Tryz.prog Pq 47 [.t 6, .t 7] Pr := ⟨Tryz.f133, _, Tryz.func133, rfl, by kernel_rfl, by kernel_rfl, by kernel_rfl, by kernel_rfl⟩
@[simp] abbrev GI : Nat := 145
abbrev DB : Plan := .take (.g 52 (.bin .eql 0) [.t 47, .t 51] 40 false) <| .take (.g 53 .pick [.t 40, .kb true, .t 52] 34 true) <| .take (.o 54 .pick [.t 34, .t 53, .kb false]) <| .take (.m 10 54) <| .done
def Ar : ACode := .seq (.seq (.reg [.m 27 11, .m 28 2, .n 29 28, .o 30 (.bin .lss 0) [.t 27, .t 29]]) <| .cond (.t 30) ( .skip) ( .exit 2)) <| .seq (.block 3 ( .draw ( .take (.m 33 10) <| .take (.m 34 33) <| .take (.mg 35 2 34 true) <| .take (.mg 36 11 34 true) <| .take (.g 37 (.iadr 1) [.t 35, .t 36] 34 true) <| .al (.lg 38 37 34 true) ( .take (.g 39 (.bin .eql 0) [.t 38, .k 0] 34 true) <| .take (.mg 40 39 34 true) <| .take (.mg 41 8 40 false) <| .take (.mg 42 9 40 false) <| .take (.g 43 (.iadr 1) [.t 41, .t 42] 40 false) <| .take (.mg 45 11 40 false) <| .take (.mg 48 2 40 false) <| .take (.mg 49 11 40 false) <| .take (.g 50 (.iadr 1) [.t 48, .t 49] 40 false) <| .alt (.lg 44 43 40 false) ( .take (.g 46 (.iadr 1) [.t 44, .t 45] 40 false) <| .alt (.lg 47 46 40 false) ( .al (.lg 51 50 40 false) DB) <| .al (.lg 51 50 40 false) ( .al (.lg 47 46 40 false) DB)) <| .al (.lg 51 50 40 false) ( .al (.lg 44 43 40 false) ( .take (.g 46 (.iadr 1) [.t 44, .t 45] 40 false) <| .al (.lg 47 46 40 false) DB)))))) <| .reg [.m 31 11, .o 32 (.bin .add 0) [.t 31, .k 1], .m 11 32]
def ER : ACode := .seq (.seq (.reg [.m 15 9, .m 16 8, .n 17 16, .o 18 (.bin .lss 0) [.t 15, .t 17], .m 19 18, .g 20 (.load true 3) [.t 3] 19 true, .mg 21 1 19 true, .mg 22 2 19 true, .g 23 (.call 59 []) [.t 20, .t 21, .t 22] 19 true, .o 24 .pick [.t 19, .t 23, .kb false]]) <| .cond (.t 24) ( .skip) ( .exit 0)) <| .seq (.block 1 ( .seq (.reg [.o 10 .mv [.kb true]]) <| .seq (.seq (.reg [.o 11 .mv [.k 0]]) <| .block 2 ( .loop [(1, 1), (2, 1), (8, 1)] [1, 2, 3, 8, 9, 10, 11] Ar)) <| .seq (.reg [.m 55 10]) <| .cond (.t 55) ( .seq (.reg [.m 56 8, .m 57 9, .o 58 (.iadr 1) [.t 56, .t 57], .l 59 58, .m 6 59, .o 7 .mv [.kb true]]) <| .ret) ( .skip))) <| .reg [.m 25 9, .o 26 (.bin .add 0) [.t 25, .k 1], .m 9 26]
def KD : ACode := .seq (.reg [.o 3 .box [.t 0], .o 6 .mv [.c (.os 1 [])], .o 7 .mv [.kb false]]) <| .seq (.reg [.la 12 3 3, .m 13 1, .o 14 (.call 202 []) [.t 12, .t 13], .m 8 14]) <| .seq (.seq (.reg [.o 9 .mv [.k 0]]) <| .block 0 ( .loop [(1, 1), (2, 1), (8, 1)] [1, 2, 3, 8, 9] ER)) <| .seq (.reg [.o 60 (.bsl 1) [], .m 6 60, .o 7 .mv [.kb false]]) <| .ret
theorem Qj : cFn Tryz.prog GI 61 [.t 6, .t 7] KD := ⟨Tryz.f145, _, Tryz.func145, rfl, by kernel_rfl, by kernel_rfl, by kernel_rfl, by kernel_rfl⟩
@[simp] abbrev Ps : Nat := 82
def Bm : ACode := .seq (.seq (.reg [.m 20 11, .m 21 2, .n 22 21, .o 23 (.bin .lss 0) [.t 20, .t 22], .m 24 23, .mg 25 9 24 true, .o 26 .pick [.t 24, .t 25, .kb false]]) <| .cond (.t 26) ( .skip) ( .exit 0)) <| .seq (.block 1 ( .seq (.reg [.m 29 10, .o 30 (.bin .lss 0) [.t 29, .k 0], .m 31 30, .fg 32 2 3 31 true, .lg 33 32 31 true, .mg 34 11 31 true, .g 35 (.iadr 1) [.t 33, .t 34] 31 true, .lg 36 35 31 true, .o 37 .pick [.t 31, .t 36, .kb false], .m 38 37, .mg 39 2 38 true, .mg 40 11 38 true, .g 41 (.iadr 1) [.t 39, .t 40] 38 true, .lg 42 41 38 true, .g 43 (.bin .eql 0) [.t 42, .k 0] 38 true, .o 44 .pick [.t 38, .t 43, .kb false]]) <| .cond (.t 44) ( .reg [.m 45 11, .m 10 45]) ( .skip))) <| .reg [.m 27 11, .o 28 (.bin .add 0) [.t 27, .k 1], .m 11 28]
def CI : ACode := .seq (.seq (.reg [.m 49 12, .o 50 (.bin .geq 0) [.t 49, .k 0], .m 51 50, .mg 52 9 51 true, .o 53 .pick [.t 51, .t 52, .kb false]]) <| .cond (.t 53) ( .skip) ( .exit 2)) <| .seq (.block 3 ( .seq (.reg [.la 56 3 3, .m 57 1, .m 58 2, .m 59 12, .o 60 (.call 149 []) [.t 56, .t 57, .t 58, .t 59], .n 61 60, .o 62 (.bin .eql 0) [.t 61, .k 1]]) <| .cond (.t 62) ( .reg [.m 63 12, .m 10 63]) ( .skip))) <| .reg [.m 54 12, .o 55 (.bin .sub 0) [.t 54, .k 1], .m 12 55]
def Pt : ACode := .seq (.reg [.o 3 .box [.t 0], .o 6 .mv [.k 0], .o 7 .mv [.k 0]]) <| .seq (.reg [.la 14 3 3, .m 15 1, .m 16 2, .o 17 (.call 145 []) [.t 14, .t 15, .t 16], .m 13 17, .e 18 0 13, .e 19 1 13, .m 8 18, .m 9 19]) <| .seq (.reg [.o 10 .mv [.k (-1)]]) <| .seq (.seq (.reg [.o 11 .mv [.k 0]]) <| .block 0 ( .loop [(1, 1), (2, 1), (8, 1)] [1, 2, 3, 8, 9, 10, 11] Bm)) <| .seq (.seq (.reg [.m 46 2, .n 47 46, .o 48 (.bin .sub 0) [.t 47, .k 1], .m 12 48]) <| .block 2 ( .loop [(1, 1), (2, 1), (8, 1)] [1, 2, 3, 8, 9, 10, 12] CI)) <| .seq (.seq (.reg [.m 64 10, .o 65 (.bin .lss 0) [.t 64, .k 0]]) <| .cond (.t 65) ( .seq (.reg [.o 6 .mv [.k (-1)], .o 7 .mv [.k 0]]) <| .ret) ( .skip)) <| .seq (.draw ( .take (.m 66 10) <| .take (.m 67 8) <| .take (.m 68 10) <| .take (.o 69 (.iadr 1) [.t 67, .t 68]) <| .take (.m 6 66) <| .al (.l 70 69) ( .take (.m 7 70) <| .done))) <| .ret
theorem WL : cFn Tryz.prog Ps 71 [.t 6, .t 7] Pt := ⟨Tryz.f82, _, Tryz.func82, rfl, by kernel_rfl, by kernel_rfl, by kernel_rfl, by kernel_rfl⟩
@[simp] abbrev LG : Nat := 91
def Es : ACode := .seq (.seq (.reg [.m 6 5, .m 7 0, .n 8 7, .o 9 (.bin .lss 0) [.t 6, .t 8]]) <| .cond (.t 9) ( .skip) ( .exit 0)) <| .seq (.block 1 ( .own [(.op, .m 12 0), (.op, .m 13 5), (.op, .o 14 (.iadr 1) [.t 12, .t 13]), (.take, .l 15 14), (.op, .m 16 1), (.back 14, .o 17 (.call 90 []) [.t 15, .t 16]), (.op, .m 1 17)])) <| .reg [.m 10 5, .o 11 (.bin .add 0) [.t 10, .k 1], .m 5 11]
def LH : ACode := .seq (.reg [.o 4 .mv [.k 0]]) <| .seq (.seq (.reg [.o 5 .mv [.k 0]]) <| .block 0 ( .loop [(0, 1)] [0, 1, 5, 19] Es)) <| .seq (.reg [.m 18 1, .m 4 18]) <| .ret
theorem Rl : cFn Tryz.prog LG 19 [.t 4] LH := ⟨Tryz.f91, _, Tryz.func91, rfl, by kernel_rfl, by kernel_rfl, by kernel_rfl, by kernel_rfl⟩
@[simp] abbrev LI : Nat := 94
def Et : ACode := .seq (.seq (.reg [.m 6 5, .m 7 0, .n 8 7, .o 9 (.bin .lss 0) [.t 6, .t 8]]) <| .cond (.t 9) ( .skip) ( .exit 0)) <| .seq (.block 1 ( .seq (.reg [.m 12 0, .m 13 5, .o 14 (.iadr 1) [.t 12, .t 13], .l 15 14, .m 16 1, .o 17 (.call 93 []) [.t 15, .t 16], .m 1 17]) <| .seq (.reg [.m 18 1, .o 19 (.bin .lss 0) [.t 18, .k 0]]) <| .cond (.t 19) ( .seq (.reg [.o 4 .mv [.k (-1)]]) <| .ret) ( .skip))) <| .reg [.m 10 5, .o 11 (.bin .add 0) [.t 10, .k 1], .m 5 11]
def LJ : ACode := .seq (.reg [.o 4 .mv [.k 0]]) <| .seq (.seq (.reg [.o 5 .mv [.k 0]]) <| .block 0 ( .loop [(0, 1)] [0, 1, 5] Et)) <| .seq (.reg [.m 20 1, .m 4 20]) <| .ret
theorem Rm : cFn Tryz.prog LI 21 [.t 4] LJ := ⟨Tryz.f94, _, Tryz.func94, rfl, by kernel_rfl, by kernel_rfl, by kernel_rfl, by kernel_rfl⟩
theorem XR : ∀ xs : List Int, noVL (AB xs) = true
 | [] => by simp [noVL]
 | x :: xs => by show (noV (.v (.int .i64 x)) && noVL (AB xs)) = true; rw [XR xs]; simp [noV]
theorem ZB : ∀ ps : List (List Int), noVL (oss ps) = true
 | [] => by simp [noVL]
 | p :: ps => by show (noV (.os 1 (AB p)) && noVL (oss ps)) = true; rw [ZB ps]; simp [noV, XR]
theorem Pu (ps : List (List Int)) : SoundAt Tryz.prog FV [.os 1 (oss ps)] (.os 1 (oss ps)) [.bot] := by
 refine AE (md := md0) (ms := [false]) JM (by simp) ?_
 simp [FW]
theorem KE (W T : Int) (cs : List Bool) (ds ls : List Int) (hok : okB W T cs ds ls = true) :
  SoundAt Tryz.prog DA [.agg [.v (.int .i64 W), .v (.int .i64 T), .sl 0 1 (AC cs)], .sl 0 1 (AB ds), .sl 0 1 (AB ls)] (.os 1 (oss (GH W T ds (allT W T cs cs.length ls)))) [.bot, .bot, .bot] := by
 refine AE (md := md2) (ms := [false, false, false]) Kh (by simp) ?_
 have hok' := hok
 simp only [okB, Bool.and_eq_true] at hok'
 obtain ⟨hr, hd, hy⟩ := hok'
 have h36 := AZ hr
 have hl := An hy
 have hz : CF ls ≤ cs.length := by have := JD ls; omega
 have hpow : 2 ^ cs.length ≤ 2 ^ 36 := Nat.pow_le_pow_right (by omega) h36
 have each := YR W T cs ds hr hd cs.length ls [] hz hy (by simp only [List.length_nil, Nat.zero_add]; exact Nat.le_trans hpow (by decide))
 rw [gm, List.nil_append] at each
 simp [FU]
 (repeat' first | assumption | omega | apply And.intro) <;>
 ·refine AA (Ag ls (by omega)) ?_
  simp
  (repeat' first | assumption | omega | apply And.intro) <;>
  ·refine AA each ?_
   simp [EL]
   refine AA (Pu (GH W T ds (allT W T cs cs.length ls))) ?_
   simp
theorem Ki (W T : Int) (cs : List Bool) (ds ls : List Int) (hok : okB W T cs ds ls = true) :
  SoundAt Tryz.prog DA [.agg [.v (.int .i64 W), .v (.int .i64 T), .sl 1 1 (AC cs)], .sl 1 1 (AB ds), .sl 1 1 (AB ls)] (.os 1 (oss (GH W T ds (allT W T cs cs.length ls)))) [.bot, .bot, .bot] := by
 refine SoundAt.lift (n := 3) (fun C S us hr => noOL_ok _ S us rfl hr) (by simp [noV, ZB]) ?_
 have h := KE W T cs ds ls hok
 simpa [vwL, vw] using h
def BL (W T : Int) (cs : List Bool) (ds ls : List Int) : Option (List Int) := if Af W T cs ds ls then (C9 W T cs ds).find? (Jd ls) else none
def jB : Option (List Int) → AV
 | some x => .tup [.sl 0 1 (AB x), .v (.bool true)]
 | none => .tup [.os 1 [], .v (.bool false)]
def bb : Option (List Int) → AV
 | some x => .tup [.os 1 (AB x), .v (.bool true)]
 | none => .tup [.os 1 [], .v (.bool false)]
theorem ZC {W T : Int} {cs : List Bool} {ds p : List Int} (h : p ∈ C9 W T cs ds) : p.length = cs.length := by
 unfold C9 at h
 split at h
 ·exact XQ (List.mem_filter.1 h).1
 ·cases h
theorem YS {W T : Int} {cs : List Bool} {ds : List Int} : (C9 W T cs ds).length ≤ 68719476736 := by
 unfold C9
 split
 ·exact Nat.le_trans (List.length_filter_le _ _) RG
 ·simp
theorem dh {ps : List (List Int)} {p : List Int → Bool} {i : Nat} (h : i < ps.length) (ha : ∀ j : Nat, j < i → p (pti ps j) = false) (hp : p (pti ps i) = true) : ps.find? p = some (pti ps i) := by
 rw [List.find?_eq_some_iff_getElem]
 refine ⟨hp, i, h, (D3 h).symm, fun j hj => ?_⟩
 have h2 := ha j hj
 rw [D3 (by omega)] at h2
 simp [h2]
theorem bd {ps : List (List Int)} {p : List Int → Bool} (ha : ∀ j : Nat, j < ps.length → p (pti ps j) = false) : ps.find? p = none := by
 rw [List.find?_eq_none]
 intro x hx
 obtain ⟨j, hj, rfl⟩ := List.getElem_of_mem hx
 have h2 := ha j hj
 rw [D3 hj] at h2
 simp [h2]
def XS (ls p : List Int) (n : Nat) : Bool := T4 n fun k => decide (ati ls k = 0) || decide (ati p k = ati ls k)
theorem Zn (ls p : List Int) (n : Nat) : XS ls p (n + 1) = (XS ls p n && (decide (ati ls n = 0) || decide (ati p n = ati ls n))) := by simp [XS, GU]
theorem be (ls p : List Int) : XS ls p ls.length = Jd ls p := rfl
theorem M6 (W T : Int) (cs : List Bool) (ds : List Int) (hb : cs.length < 2 ^ 40) (hd : ds.length < 2 ^ 40) :
  SoundAt Tryz.prog Er [.agg [.v (.int .i64 W), .v (.int .i64 T), .sl 1 1 (AC cs)], .sl 1 1 (AB ds)] (.sl 0 1 (sls 0 (C9 W T cs ds))) [.bot, .bot] := by
 have h := SoundAt.frozen (n := 2) (fun C S us hr => noOL_ok _ S us rfl hr) (OH W T cs ds hb hd)
 simpa [vw] using h
theorem KF (W T : Int) (cs : List Bool) (ds ls : List Int) (hb : cs.length < 2 ^ 40) (hd : ds.length < 2 ^ 40) (hl : ls.length < 2 ^ 40) :
  SoundAt Tryz.prog GI [.agg [.v (.int .i64 W), .v (.int .i64 T), .sl 1 1 (AC cs)], .sl 1 1 (AB ds), .sl 1 1 (AB ls)] (jB (BL W T cs ds ls)) [.bot, .bot, .bot] := by
 refine AE (md := md0) (ms := [false, false, false]) Qj (by simp) ?_
 simp [KD]
 refine AA (M6 W T cs ds hb hd) ?_
 simp
 refine AF (fun m E H => ∃ i : Nat, m = (C9 W T cs ds).length - i ∧ i ≤ (C9 W T cs ds).length ∧ (∀ j : Nat, j < i → Jd ls (pti (C9 W T cs ds) j) = false) ∧ H = [some (.box [.v (.int .i64 W), .v (.int .i64 T), .sl 1 1 (AC cs)])] ∧
  E = [(1, .sl 1 1 (AB ds)), (2, .sl 1 1 (AB ls)), (3, .lp 0 0 0 0), (8, .sl 0 1 (sls 0 (C9 W T cs ds))), (9, .v (.int .i64 i))]) (C9 W T cs ds).length ⟨0, by simp⟩ ?_
 rintro J hJ m E H ⟨i, rfl, hi, ha, rfl, rfl⟩
 by_cases h : i < (C9 W T cs ds).length
 case neg =>
  have e : BL W T cs ds ls = none := by
   unfold BL; split
   ·exact bd fun j hj => ha j (by omega)
   ·rfl
  have hi' : i = (C9 W T cs ds).length := by omega
  simp [ER, e, jB, hi']
 simp [ER, h]
 refine AA (BW W T cs ds ls hb hd hl) ?_
 cases hf : Af W T cs ds ls with
 | false =>
   have e : BL W T cs ds ls = none := by simp [BL, hf]
   simp [e, jB]
 | true =>
 obtain ⟨hr, e1, e2, _⟩ := Lv (Cm hf)
 have hpl : (pti (C9 W T cs ds) i).length = cs.length := ZC (Kg h)
 simp
 refine AF (fun m E H => ∃ j : Nat, m = ls.length - j ∧ j ≤ ls.length ∧ H = [some (.box [.v (.int .i64 W), .v (.int .i64 T), .sl 1 1 (AC cs)])] ∧
  E = [(1, .sl 1 1 (AB ds)), (2, .sl 1 1 (AB ls)), (3, .lp 0 0 0 0), (8, .sl 0 1 (sls 0 (C9 W T cs ds))), (9, .v (.int .i64 i)), (10, .v (.bool (XS ls (pti (C9 W T cs ds) i) j))), (11, .v (.int .i64 j))]) ls.length ⟨0, by simp [XS, GT]⟩ ?_
 rintro J2 hJ2 m2 E2 H2 ⟨j, rfl, hj, rfl, rfl⟩
 by_cases h2 : j < ls.length
 case neg =>
  have hj' : j = ls.length := by omega
  subst hj'
  rw [be]
  cases hh : Jd ls (pti (C9 W T cs ds) i) with
  | true =>
    have e : BL W T cs ds ls = some (pti (C9 W T cs ds) i) := by
     unfold BL
     rw [if_pos hf]
     exact dh h ha hh
    simp [Ar, e, jB, h]
  | false =>
    simp [Ar]
    refine ⟨by have := YS (W := W) (T := T) (cs := cs) (ds := ds); omega, ?_⟩
    refine ⟨_, by omega, hJ _ _ _ ⟨i + 1, rfl, h, ?_, rfl, rfl⟩⟩
    intro k hk
    rcases Nat.lt_or_ge k i with h1 | h1
    ·exact ha k h1
    ·have : k = i := by omega
     subst this; exact hh
 have hs := Zn ls (pti (C9 W T cs ds) i) j
 have next : ∀ b : Bool, XS ls (pti (C9 W T cs ds) i) (j + 1) = b → Cz J2 (ls.length - j) [(1, .sl 1 1 (AB ds)), (2, .sl 1 1 (AB ls)), (3, .lp 0 0 0 0), (8, .sl 0 1 (sls 0 (C9 W T cs ds))), (9, .v (.int .i64 i)), (10, .v (.bool b)), (11, .v (.int .i64 (j + 1)))]
   [some (.box [.v (.int .i64 W), .v (.int .i64 T), .sl 1 1 (AC cs)])] := by
  rintro b rfl
  exact ⟨_, by omega, hJ2 _ _ _ ⟨j + 1, rfl, h2, rfl, rfl⟩⟩
 have hjp : j < (pti (C9 W T cs ds) i).length := by omega
 cases hh : XS ls (pti (C9 W T cs ds) i) j with
 | false =>
   have n := next false (by rw [hs, hh]; rfl)
   simp [Ar, h2]
   exact ⟨by omega, n⟩
 | true =>
 by_cases z : ati ls j = 0
 ·have n := next true (by rw [hs, hh, z]; rfl)
  simp [Ar, h2, z]
  exact ⟨by omega, n⟩
 by_cases ez : ati (pti (C9 W T cs ds) i) j = ati ls j
 ·have n := next true (by rw [hs, hh, ez]; simp)
  simp [Ar, h2, z, h, hjp, ez]
  exact ⟨by omega, n⟩
 ·have n := next (ati (pti (C9 W T cs ds) i) j == ati ls j) (by rw [hs, hh]; simp [z, ez])
  simp [Ar, h2, z, h, hjp]
  exact ⟨by omega, n⟩
theorem IE (W T : Int) (cs : List Bool) (ds ls : List Int) (hok : okB W T cs ds ls = true) :
  SoundAt Tryz.prog IC [.agg [.v (.int .i64 W), .v (.int .i64 T), .sl 1 1 (AC cs)], .sl 1 1 (AB ds), .sl 1 1 (AB ls)] (bb ((C9 W T cs ds).find? (Jd ls))) [.bot, .bot, .bot] := by
 refine AE (md := md0) (ms := [false, false, false]) OJ (by simp) ?_
 simp [ID]
 refine AA (Ki W T cs ds ls hok) ?_
 have e : GH W T ds (allT W T cs cs.length ls) = (C9 W T cs ds).filter (Jd ls) := dg hok
 rw [← List.head?_filter, ← e]
 cases hp : GH W T ds (allT W T cs cs.length ls) with
 | nil => simp [bb]
 | cons p ps =>
   have h0 : ¬ ((ps.length : Int) + 1 = 0) := by omega
   simp [bb, h0]
   refine SQ rfl rfl rfl ?_
   intro u
   simp [N3]
theorem Qk (W T : Int) (cs : List Bool) (ds ls : List Int) (hb : cs.length < 2 ^ 40) (hd : ds.length < 2 ^ 40) (hl : ls.length < 2 ^ 40) :
  SoundAt Tryz.prog KB [.agg [.v (.int .i64 W), .v (.int .i64 T), .sl 1 1 (AC cs)], .sl 1 1 (AB ds), .sl 1 1 (AB ls)] (bb (BL W T cs ds ls)) [.bot, .bot, .bot] := by
 refine AE (md := md0) (ms := [false, false, false]) Qi (by simp) ?_
 simp [KC]
 refine AA (HF W T cs ds ls hb hd hl) ?_
 cases hf : Af W T cs ds ls with
 | false => simp [BL, hf, bb]
 | true =>
 simp
 refine AA (IE W T cs ds ls (Cm hf)) ?_
 have e : BL W T cs ds ls = (C9 W T cs ds).find? (Jd ls) := by simp [BL, hf]
 rw [e]
 cases hr : (C9 W T cs ds).find? (Jd ls) with
 | none => simp [bb]
 | some x => simp [bb]
def Jf (W T : Int) (cs : List Bool) (ds ls : List Int) : Int := if XM W T cs ds ls < 0 then EQ cs ls else XM W T cs ds ls
def Kj (W T : Int) (cs : List Bool) (ds ls : List Int) : Int := if (BL W T cs ds ls).isSome = true then Jf W T cs ds ls else -1
def M7 (W T : Int) (cs : List Bool) (ds ls : List Int) : Int := match BL W T cs ds ls with
 | some x => if Jf W T cs ds ls < 0 then 0 else ati x (Jf W T cs ds ls)
 | none => 0
theorem Kk {W T : Int} {cs : List Bool} {ds ls x : List Int} (h : BL W T cs ds ls = some x) : Af W T cs ds ls = true ∧ x.length = cs.length := by
 unfold BL at h
 split at h
 ·rename_i hf
  exact ⟨hf, ZC (List.mem_of_find?_eq_some h)⟩
 ·cases h
theorem TQ (W T : Int) (cs : List Bool) (ds ls : List Int) : Jf W T cs ds ls = -1 ∨ ∃ k : Nat, k < ls.length ∧ Jf W T cs ds ls = k := by
 unfold Jf
 split
 ·rcases E3 cs ls with h | ⟨k, hk, he, _⟩
  ·exact .inl h
  ·exact .inr ⟨k, hk, he⟩
 ·rename_i h1
  rcases FL W T cs ds ls with h | ⟨k, hk, he, _⟩
  ·omega
  ·exact .inr ⟨k, hk, he⟩
theorem WM (W T : Int) (cs : List Bool) (ds ls : List Int) (hb : cs.length < 2 ^ 40) (hd : ds.length < 2 ^ 40) (hl : ls.length < 2 ^ 40) :
  SoundAt Tryz.prog Pq [.agg [.v (.int .i64 W), .v (.int .i64 T), .sl 1 1 (AC cs)], .sl 1 1 (AB ds), .sl 1 1 (AB ls)] (.tup [.v (.int .i64 (Kj W T cs ds ls)), .v (.int .i64 (M7 W T cs ds ls))]) [.bot, .bot, .bot] := by
 refine AE (md := md0) (ms := [false, false, false]) WK (by simp) ?_
 simp [Pr]
 refine AA (Qk W T cs ds ls hb hd hl) ?_
 cases hx : BL W T cs ds ls with
 | none => simp [bb, Kj, M7, hx]
 | some x =>
 obtain ⟨hf, hxl⟩ := Kk hx
 have hok := Cm hf
 obtain ⟨hr, e1, e2, _⟩ := Lv hok
 have eh1 : Kj W T cs ds ls = Jf W T cs ds ls := by simp [Kj, hx]
 have eh2 : M7 W T cs ds ls = if Jf W T cs ds ls < 0 then 0 else ati x (Jf W T cs ds ls) := by simp [M7, hx]
 rw [eh1, eh2]
 simp [bb]
 refine AA (En W T cs ds ls 1 hok) ?_
 have e0 : D2 (JC W T cs ds ls 1) ls.length = XM W T cs ds ls := rfl
 rw [e0]
 simp
 refine AF (fun m E H => ∃ (i : Nat) (c : Int), m = ls.length - i ∧ i ≤ ls.length ∧ (c = Jf W T cs ds ls ∧ 0 ≤ c ∨ c = -1 ∧ XM W T cs ds ls < 0 ∧ ∀ j : Nat, j < i → Ef cs ls j = false) ∧
  H = [some (.box [.v (.int .i64 W), .v (.int .i64 T), .sl 1 1 (AC cs)]), some (.arr 1 (AB x))] ∧
  E = [(2, .sl 1 1 (AB ls)), (3, .lp 0 0 0 0), (8, .ls 1 1 0 x.length), (10, .v (.int .i64 c)), (11, .v (.int .i64 i))]) ls.length ⟨0, XM W T cs ds ls, by simp, by simp, ?_, by simp, by simp⟩ ?_
 ·rcases FL W T cs ds ls with h | ⟨k, hk, he, _⟩
  ·right; exact ⟨h, by omega, by omega⟩
  ·left; refine ⟨by rw [Jf, if_neg (by omega)], by omega⟩
 rintro J hJ m E H ⟨i, c, rfl, hi, hc, rfl, rfl⟩
 rcases hc with ⟨rfl, hc0⟩ | ⟨rfl, ho, hbr⟩
 ·
  rcases TQ W T cs ds ls with h | ⟨k, hk, he⟩
  ·omega
  rw [he]
  have hkx : k < x.length := by omega
  have hk0 : ¬ (k : Int) < 0 := by omega
  simp [El, hk0, hkx]
 by_cases h : i < ls.length
 case neg =>
  have hi' : i = ls.length := by omega
  subst hi'
  have he : Jf W T cs ds ls = -1 := by
   rw [Jf, if_pos ho]; exact Bk hbr
  simp [El, he]
 have one := JB W T cs ls i (by omega) e2
 have hii : (i : Int) < cs.length := by omega
 simp [El, h]
 refine AA one ?_
 cases hb2 : Ef cs ls i with
 | true =>
   have hb' : decide (0 ≤ (i : Int) ∧ (i : Int) < cs.length ∧ atb cs i = true ∧ ati ls i = 0) = true := by
    simp [Ef] at hb2 ⊢; exact ⟨by omega, hb2⟩
   rw [hb']
   simp
   have he : Jf W T cs ds ls = i := by rw [Jf, if_pos ho]; exact B5 h hb2 hbr
   exact ⟨by omega, _, by omega, hJ _ _ _ ⟨i + 1, i, rfl, h, .inl ⟨he.symm, by omega⟩, rfl, rfl⟩⟩
 | false =>
   have hb' : decide (0 ≤ (i : Int) ∧ (i : Int) < cs.length ∧ atb cs i = true ∧ ati ls i = 0) = false := by
    simp [Ef] at hb2 ⊢; intro _; exact hb2
   rw [hb']
   simp
   refine ⟨by omega, _, by omega, hJ _ _ _ ⟨i + 1, -1, rfl, h, .inr ⟨rfl, ho, ?_⟩, rfl, rfl⟩⟩
   intro j hj
   rcases Nat.lt_or_ge j i with h1 | h1
   ·exact hbr j h1
   ·have : j = i := by omega
    subst this; exact hb2
theorem WN (W T : Int) (cs : List Bool) (ds ls : List Int) (hb : cs.length < 2 ^ 40) (hd : ds.length < 2 ^ 40) (hl : ls.length < 2 ^ 40) :
  SoundAt Tryz.prog Ps [.agg [.v (.int .i64 W), .v (.int .i64 T), .sl 1 1 (AC cs)], .sl 1 1 (AB ds), .sl 1 1 (AB ls)] (.tup [.v (.int .i64 (Kj W T cs ds ls)), .v (.int .i64 (M7 W T cs ds ls))]) [.bot, .bot, .bot] := by
 refine AE (md := md0) (ms := [false, false, false]) WL (by simp) ?_
 simp [Pt]
 refine AA (KF W T cs ds ls hb hd hl) ?_
 cases hx : BL W T cs ds ls with
 | none =>
   have eh1 : Kj W T cs ds ls = -1 := by simp [Kj, hx]
   have eh2 : M7 W T cs ds ls = 0 := by simp [M7, hx]
   rw [eh1, eh2]
   simp [jB]
   refine AF (fun m E H => H = [some (.box [.v (.int .i64 W), .v (.int .i64 T), .sl 1 1 (AC cs)]), some (.arr 1 [])] ∧
    E = [(1, .sl 1 1 (AB ds)), (2, .sl 1 1 (AB ls)), (3, .lp 0 0 0 0), (8, .ls 1 1 0 0), (9, .v (.bool false)), (10, .v (.int .i64 (-1))), (11, .v (.int .i64 0))]) 0 ⟨by simp, by simp⟩ ?_
   rintro J hJ m E H ⟨rfl, rfl⟩
   simp [Bm]
   (repeat' first | omega | apply And.intro | intro _) <;>
   ·refine AF (fun m E H => H = [some (.box [.v (.int .i64 W), .v (.int .i64 T), .sl 1 1 (AC cs)]), some (.arr 1 [])] ∧
     E = [(1, .sl 1 1 (AB ds)), (2, .sl 1 1 (AB ls)), (3, .lp 0 0 0 0), (8, .ls 1 1 0 0), (9, .v (.bool false)), (10, .v (.int .i64 (-1))), (12, .v (.int .i64 (ls.length - 1)))]) 0 ⟨rfl, rfl⟩ ?_
    rintro J hJ m E H ⟨rfl, rfl⟩
    by_cases h : (0 : Int) ≤ ls.length - 1
    ·simp [CI, h]
    ·simp [CI, h]
 | some x =>
 obtain ⟨hf, hxl⟩ := Kk hx
 have hok := Cm hf
 obtain ⟨hr, e1, e2, _⟩ := Lv hok
 have eh1 : Kj W T cs ds ls = Jf W T cs ds ls := by simp [Kj, hx]
 have eh2 : M7 W T cs ds ls = if Jf W T cs ds ls < 0 then 0 else ati x (Jf W T cs ds ls) := by simp [M7, hx]
 rw [eh1, eh2]
 simp [jB]
 refine AF (fun m E H => ∃ (i : Nat) (c : Int), m = ls.length - i ∧ i ≤ ls.length ∧ (c = EQ cs ls ∧ 0 ≤ c ∨ c = -1 ∧ ∀ j : Nat, j < i → Ef cs ls j = false) ∧
  H = [some (.box [.v (.int .i64 W), .v (.int .i64 T), .sl 1 1 (AC cs)])] ∧
  E = [(1, .sl 1 1 (AB ds)), (2, .sl 1 1 (AB ls)), (3, .lp 0 0 0 0), (8, .sl 0 1 (AB x)), (9, .v (.bool true)), (10, .v (.int .i64 c)), (11, .v (.int .i64 i))]) ls.length ⟨0, -1, by simp⟩ ?_
 rintro J hJ m E H ⟨i, c, rfl, hi, hc, rfl, rfl⟩
 by_cases h : i < ls.length
 case pos =>
  have next : ∀ c' : Int, (c' = EQ cs ls ∧ 0 ≤ c' ∨ c' = -1 ∧ ∀ j : Nat, j < i + 1 → Ef cs ls j = false) → Cz J (ls.length - i) [(1, .sl 1 1 (AB ds)), (2, .sl 1 1 (AB ls)), (3, .lp 0 0 0 0), (8, .sl 0 1 (AB x)), (9, .v (.bool true)), (10, .v (.int .i64 c')), (11, .v (.int .i64 (i + 1)))]
    [some (.box [.v (.int .i64 W), .v (.int .i64 T), .sl 1 1 (AC cs)])] := by
   intro c' hc'
   exact ⟨_, by omega, hJ _ _ _ ⟨i + 1, c', rfl, h, hc', rfl, rfl⟩⟩
  have h2 : i < cs.length := by omega
  rcases hc with ⟨rfl, hc0⟩ | ⟨rfl, hbr⟩
  ·have hc1 : ¬ EQ cs ls < 0 := by omega
   simp [Bm, h, hc1]
   exact ⟨by omega, next _ (.inl ⟨rfl, hc0⟩)⟩
  have up : Ef cs ls i = false → ∀ j : Nat, j < i + 1 → Ef cs ls j = false := by
   intro hx2 j hj
   rcases Nat.lt_or_ge j i with h1 | h1
   ·exact hbr j h1
   ·have : j = i := by omega
    subst this; exact hx2
  cases hcc : atb cs i with
  | false =>
    simp [Bm, h, h2, hcc]
    exact ⟨by omega, next _ (.inr ⟨rfl, up (by simp [Ef, hcc])⟩)⟩
  | true =>
  by_cases z : ati ls i = 0
  ·have he : EQ cs ls = i := B5 h (by simp [Ef, hcc, z]) hbr
   simp [Bm, h, h2, hcc, z]
   exact ⟨by omega, next _ (.inl ⟨he.symm, by omega⟩)⟩
  ·simp [Bm, h, h2, hcc, z]
   exact ⟨by omega, next _ (.inr ⟨rfl, up (by simp [Ef, z])⟩)⟩
 have hi' : i = ls.length := by omega
 subst hi'
 have hcb : c = EQ cs ls := by
  rcases hc with ⟨h1, _⟩ | ⟨h1, h2⟩
  ·exact h1
  ·rw [h1]; exact (Bk h2).symm
 subst hcb
 clear hJ hc
 simp [Bm]
 refine ⟨by omega, ?_⟩
 refine AF (fun m E H => ∃ (i : Nat) (c : Int), m = i ∧ i ≤ ls.length ∧ (c = EQ cs ls ∧ (∀ j : Nat, i ≤ j → j < ls.length → JC W T cs ds ls 1 j = false) ∨ ∃ j : Nat, i ≤ j ∧ j < ls.length ∧ c = j ∧ JC W T cs ds ls 1 j = true ∧ ∀ j' : Nat, i ≤ j' → j' < j → JC W T cs ds ls 1 j' = false) ∧
  H = [some (.box [.v (.int .i64 W), .v (.int .i64 T), .sl 1 1 (AC cs)])] ∧
  E = [(1, .sl 1 1 (AB ds)), (2, .sl 1 1 (AB ls)), (3, .lp 0 0 0 0), (8, .sl 0 1 (AB x)), (9, .v (.bool true)), (10, .v (.int .i64 c)), (12, .v (.int .i64 ((i : Int) - 1)))]) ls.length ⟨ls.length, EQ cs ls, rfl, Nat.le_refl _, .inl ⟨rfl, fun j h1 h2 => by omega⟩, rfl, rfl⟩ ?_
 rintro J hJ m E H ⟨i, c, rfl, hi, hc, rfl, rfl⟩
 cases m with
 | zero =>
   have hcc : c = Jf W T cs ds ls := by
    rcases hc with ⟨h1, h2⟩ | ⟨j, h1, h2, h3, h4, h5⟩
    ·have ho : XM W T cs ds ls = -1 := Bk fun j hj => h2 j (by omega) hj
     rw [h1, Jf, if_pos (by omega)]
    ·have ho : XM W T cs ds ls = j := B5 h2 h4 fun j' hj' => h5 j' (by omega) hj'
     rw [h3, Jf, if_neg (by omega), ho]
   subst hcc
   rcases TQ W T cs ds ls with h | ⟨k, hk, he⟩
   ·simp [CI, h]
   ·have hkx : k < x.length := by omega
    have hk0 : ¬ (k : Int) < 0 := by omega
    simp [CI, he, hk0, hkx]
 | succ i =>
   have h : i < ls.length := by omega
   have two := Gr W T cs ds ls i hb hd hl
   have ho : PP W T cs ds ls i = F9 W T cs ds ls i := by simp [PP, hf]
   rw [ho] at two
   have hop : (F9 W T cs ds ls i).length ≤ 4 := Ez ..
   have ei : ((i : Int) + 1 - 1) = i := by omega
   have next : ∀ c' : Int, (c' = EQ cs ls ∧ (∀ j : Nat, i ≤ j → j < ls.length → JC W T cs ds ls 1 j = false) ∨ ∃ j : Nat, i ≤ j ∧ j < ls.length ∧ c' = j ∧ JC W T cs ds ls 1 j = true ∧ ∀ j' : Nat, i ≤ j' → j' < j → JC W T cs ds ls 1 j' = false) →
     Cz J (i + 1) [(1, .sl 1 1 (AB ds)), (2, .sl 1 1 (AB ls)), (3, .lp 0 0 0 0), (8, .sl 0 1 (AB x)), (9, .v (.bool true)), (10, .v (.int .i64 c')), (12, .v (.int .i64 ((i : Int) - 1)))]
     [some (.box [.v (.int .i64 W), .v (.int .i64 T), .sl 1 1 (AC cs)])] := by
    intro c' hc'
    exact ⟨_, by omega, hJ _ _ _ ⟨i, c', rfl, by omega, hc', rfl, rfl⟩⟩
   simp [CI, ei]
   refine AA two ?_
   by_cases hn : (F9 W T cs ds ls i).length = 1
   ·have hbare : 0 ≤ (i : Int) ∧ (i : Int) < cs.length ∧ atb cs i = true ∧ ati ls i = 0 := by
     apply Decidable.byContradiction
     intro hx
     rw [U6 W T cs ds ls i hx] at hn
     simp at hn
    have hh : JC W T cs ds ls 1 i = true := by simp [JC, hbare.2.2.1, hbare.2.2.2, hn]
    simp [hn]
    exact ⟨by omega, next _ (.inr ⟨i, Nat.le_refl _, h, rfl, hh, fun j' h1 h2 => by omega⟩)⟩
   ·have hn' : ¬ ((F9 W T cs ds ls i).length : Int) = 1 := by omega
    have hh : JC W T cs ds ls 1 i = false := by simp [JC, hn']
    simp [hn']
    refine ⟨by omega, next _ ?_⟩
    rcases hc with ⟨h1, h2⟩ | ⟨j, h1, h2, h3, h4, h5⟩
    ·refine .inl ⟨h1, fun j hj1 hj2 => ?_⟩
     rcases Nat.lt_or_ge i j with h6 | h6
     ·exact h2 j h6 hj2
     ·have : j = i := by omega
      subst this; exact hh
    ·refine .inr ⟨j, by omega, h2, h3, h4, fun j' hj1 hj2 => ?_⟩
     rcases Nat.lt_or_ge i j' with h6 | h6
     ·exact h5 j' h6 hj2
     ·have : j' = i := by omega
      subst this; exact hh
end Go.Proofs.Dev
