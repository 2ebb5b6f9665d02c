/- Contracts of the functions of the program over slots and rows, each proved against the program itself; no condition beyond those that each theorem names. -/
import Derived.Test.YtfkmfobbgoflgaaGreatDoorAP
import Derived.Test.YtfkmfobbgoflgaaGreatDoorAH
import Derived.Test.YtfkmfobbgoflgaaGreatDoorProg
import Derived.Shelf.Bits.Mul64
import Derived.Ground.NamesProg
set_option linter.unusedSimpArgs false
set_option linter.unusedVariables false
set_option maxRecDepth 100000
namespace Go.Proofs.Dev
@[simp] def md2 (f : Nat) : List Bool := if f = 207 then [false, true, true] else if f = 208 then [true, true, true, true] else md0 f
def Ge (W T : Int) (ds : List Int) (ps : List (List Int)) : List (List Int) := ps.filter fun t => KP (B3 W T ds t)
theorem dP (W T : Int) (ds t : List Int) : Ge W T ds [t] = dN W T ds t := by
 unfold Ge dN
 cases h : KP (B3 W T ds t) <;> simp [h]
theorem SH (W T : Int) (ds : List Int) (a b : List (List Int)) : Ge W T ds (a ++ b) = Ge W T ds a ++ Ge W T ds b := by simp [Ge]
theorem SI (W T : Int) (ds : List Int) (a : List (List Int)) : (Ge W T ds a).length ≤ a.length := List.length_filter_le _ _
theorem PD (W T : Int) (cs : List Bool) (ds t : List Int) (acc : List (List Int)) (hok : okB W T cs ds t = true) (ha : acc.length < 2 ^ 38) :
  SoundAt Tryz.prog Ew [.os 1 (AB t), .op [.v (.int .i64 W), .v (.int .i64 T), .sl 0 1 (AC cs)], .op [.sl 0 1 (AB ds)], .op [.os 1 (oss acc)]]
   (.v (.bool true)) [.bot, .op [.v (.int .i64 W), .v (.int .i64 T), .sl 0 1 (AC cs)], .op [.sl 0 1 (AB ds)], .op [.os 1 (oss (acc ++ dN W T ds t))]] := by
 refine AE (md := md0) (ms := [false, true, true, true]) KE (by simp) ?_
 simp [Ex]
 refine AA (Dk W T cs ds t hok) ?_
 cases ho : KP (B3 W T ds t) with
 | false =>
   simp [dN, ho]
 | true =>
   simp [dN, ho]
   refine ⟨by omega, ?_⟩
   rw [Kd, RZ]
   exact List.take_of_length_le (by simp)
@[simp] theorem mI (xs : List Int) (i : Nat) (h : i < (AB xs).length) : (AB xs)[i] = .v (.int .i64 (ati xs i)) := by
  have h2 : i < xs.length := by simpa using h
  simp [AB, ati, h2]
theorem n6 : cL Tryz.prog 208 = true := by kernel_rfl
def XO (W T : Int) (cs : List Bool) (ds ls : List Int) (acc : List (List Int)) : AH :=
 [some (.arr 1 (AB ls)), some (.box [.v (.int .i64 W), .v (.int .i64 T), .sl 0 1 (AC cs)]), some (.box [.sl 0 1 (AB ds)]), some (.box [.ls 1 5 0 acc.length]),
  some (.box [.v (.int .i64 W), .v (.int .i64 T), .sl 1 1 (AC cs)]), some (.arr 1 (oss acc))]
def M6 (W T : Int) (cs : List Bool) (ds ls : List Int) (acc : List (List Int)) : AH :=
 [some (.arr 1 (AB ls)), some (.box [.v (.int .i64 W), .v (.int .i64 T), .sl 0 1 (AC cs)]), some (.box [.sl 0 1 (AB ds)]), some (.box [.ls 1 6 0 acc.length]),
  some (.box [.v (.int .i64 W), .v (.int .i64 T), .sl 1 1 (AC cs)]), some (.arr 1 [.v (.int .i64 1), .v (.int .i64 2)]), some (.arr 1 (oss acc))]
theorem dQ (W T : Int) (cs : List Bool) (ds : List Int) (hr : A0 W T cs = true) (hd : Cg cs ds = true) (n : Nat)
  (ih : ∀ m, n = m + 1 → ∀ (ls : List Int) (acc : List (List Int)), CI ls ≤ m → AO W T cs ls = true → acc.length + 2 ^ m ≤ 2 ^ 37 →
   SoundAt Tryz.prog Ds [.agg [.v (.int .i64 W), .v (.int .i64 T), .sl 1 1 (AC cs)], .os 1 (AB ls), .fn 208 [.op [.v (.int .i64 W), .v (.int .i64 T), .sl 0 1 (AC cs)], .op [.sl 0 1 (AB ds)], .op [.os 1 (oss acc)]]]
    (.v (.bool true)) [.bot, .bot, .fn 208 [.op [.v (.int .i64 W), .v (.int .i64 T), .sl 0 1 (AC cs)], .op [.sl 0 1 (AB ds)], .op [.os 1 (oss (acc ++ Ge W T ds (allT W T cs m ls)))]]])
  (ls : List Int) (acc : List (List Int)) (hz : CI ls ≤ n) (hy : AO W T cs ls = true) (ha : acc.length + 2 ^ n ≤ 2 ^ 37) :
  SoundAt Tryz.prog Ds [.agg [.v (.int .i64 W), .v (.int .i64 T), .sl 1 1 (AC cs)], .os 1 (AB ls), .fn 208 [.op [.v (.int .i64 W), .v (.int .i64 T), .sl 0 1 (AC cs)], .op [.sl 0 1 (AB ds)], .op [.os 1 (oss acc)]]]
   (.v (.bool true)) [.bot, .bot, .fn 208 [.op [.v (.int .i64 W), .v (.int .i64 T), .sl 0 1 (AC cs)], .op [.sl 0 1 (AB ds)], .op [.os 1 (oss (acc ++ Ge W T ds (allT W T cs n ls)))]]] := by
 have h36 := AZ hr
 have hl : ls.length = cs.length := by simp only [AO, Bool.and_eq_true, decide_eq_true_eq] at hy; exact hy.1
 have hok : okB W T cs ds ls = true := by simp only [okB, hr, hd, hy, Bool.and_self]
 have hp : 0 < 2 ^ n := Nat.pow_pos (by omega)
 have hac : acc.length < 2 ^ 38 := Nat.lt_of_le_of_lt (Nat.le_trans (Nat.le_add_right _ _) ha) (by decide)
 refine AE (md := md2) (ms := [false, false, true]) Qh (by simp) ?_
 simp [Jn]
 refine AF (fun m E H => ∃ i : Nat, m = ls.length - i ∧ i ≤ ls.length ∧ (∀ j : Nat, j < i → Ev cs ls j = false) ∧ H = XO W T cs ds ls acc ∧
  E = [(1, .ls 1 0 0 ls.length), (2, .fn 208 [.lp 0 1 0 0, .lp 0 2 0 0, .lp 0 3 0 0]), (3, .lp 0 4 0 0), (7, .v (.int .i64 i)), (63, .fn 208 [.lp 0 1 0 0, .lp 0 2 0 0, .lp 0 3 0 0])]) ls.length ⟨0, by simp [XO]⟩ ?_
 rintro J hJ m E H ⟨i, rfl, hi, hb, rfl, rfl⟩
 by_cases h : i < ls.length
 case neg =>
  have hi' : i = ls.length := by omega
  subst hi'
  have he : Eg cs ls = -1 := Bk hb
  simp [Bf, XO]
  refine ⟨n6, AA (PD W T cs ds ls acc hok hac) ?_⟩
  simp [M3 n (show Eg cs ls < 0 by omega), dP]
  exact List.take_of_length_le (by simp)
 have next : Ev cs ls i = false → C6 J (ls.length - i) [(1, .ls 1 0 0 ls.length), (2, .fn 208 [.lp 0 1 0 0, .lp 0 2 0 0, .lp 0 3 0 0]), (3, .lp 0 4 0 0), (7, .v (.int .i64 (i + 1))), (63, .fn 208 [.lp 0 1 0 0, .lp 0 2 0 0, .lp 0 3 0 0])]
   (XO W T cs ds ls acc) := by
  intro hx
  refine ⟨_, by omega, hJ _ _ _ ⟨i + 1, rfl, h, ?_, rfl, rfl⟩⟩
  intro j hj
  rcases Nat.lt_or_ge j i with h1 | h1
  ·exact hb j h1
  ·have : j = i := by omega
   subst this; exact hx
 have h2 : i < cs.length := by omega
 cases hc : atb cs i with
 | false =>
   have nx := next (by simp [Ev, hc])
   simp [XO] at nx
   simp [Bf, XO, h, h2, hc]
   exact ⟨by omega, nx⟩
 | true =>
 by_cases z : ati ls i = 0
 case neg =>
  have nx := next (by simp [Ev, z])
  simp [XO] at nx
  simp [Bf, XO, h, h2, hc, z]
  exact ⟨by omega, nx⟩
 have he : Eg cs ls = i := B7 h (by simp [Ev, hc, z]) hb
 have hzp := M5 h z
 obtain ⟨n', rfl⟩ : ∃ n', n = n' + 1 := ⟨n - 1, by omega⟩
 have hk0 : ¬ (i : Int) < 0 := by omega
 have hall : allT W T cs (n' + 1) ls = Qd W T cs n' ls i 2 := by
  rw [allT, he, if_neg hk0]
  simp [Qd, M4, List.range_succ]
 rw [hall]
 have hne : ¬ ((i : Int) = ls.length) := by omega
 simp [Bf, XO, h, h2, hc, z, hne]
 have b1 := PB W T cs n' ls i
 have hpow : 2 ^ (n' + 1) = 2 * 2 ^ n' := by rw [Nat.pow_succ]; omega
 refine AF (fun m E H => ∃ j : Nat, m = 2 - j ∧ j ≤ 2 ∧ H = M6 W T cs ds ls (acc ++ Ge W T ds (Qd W T cs n' ls i j)) ∧
  E = [(1, .ls 1 0 0 ls.length), (2, .fn 208 [.lp 0 1 0 0, .lp 0 2 0 0, .lp 0 3 0 0]), (3, .lp 0 4 0 0), (7, .v (.int .i64 i)), (38, .ls 1 5 0 2), (39, .v (.int .i64 2)), (40, .v (.int .i64 j)), (63, .fn 208 [.lp 0 1 0 0, .lp 0 2 0 0, .lp 0 3 0 0])]) 2 ⟨0, by simp [M6, Qd, Ge]⟩ ?_
 rintro J2 hJ2 m2 E2 H2 ⟨j, rfl, hj, rfl, rfl⟩
 by_cases h3 : j < 2
 case neg =>
  have : j = 2 := by omega
  subst this
  simp [Ca, M6]
  exact List.take_of_length_le (by simp)
 have h01 : j = 0 ∨ j = 1 := by omega
 rcases h01 with rfl | rfl
 ·have hsuc : Qd W T cs n' ls i (0 + 1) = Qd W T cs n' ls i 0 ++ M4 W T cs n' ls i 1 := by simpa using Qe W T cs n' ls i 0
  have bl := b1 0
  have kl := SI W T ds (Qd W T cs n' ls i 0)
  have hlen : (acc ++ Ge W T ds (Qd W T cs n' ls i 0)).length + 2 ^ n' ≤ 2 ^ 37 := by rw [List.length_append]; omega
  have next2 : ∀ x, M4 W T cs n' ls i 1 = x → C6 J2 (2 - 0) [(1, .ls 1 0 0 ls.length), (2, .fn 208 [.lp 0 1 0 0, .lp 0 2 0 0, .lp 0 3 0 0]), (3, .lp 0 4 0 0), (7, .v (.int .i64 i)), (38, .ls 1 5 0 2), (39, .v (.int .i64 2)), (40, .v (.int .i64 1)), (63, .fn 208 [.lp 0 1 0 0, .lp 0 2 0 0, .lp 0 3 0 0])]
    (M6 W T cs ds ls ((acc ++ Ge W T ds (Qd W T cs n' ls i 0)) ++ Ge W T ds x)) := by
   rintro x rfl
   refine ⟨_, by omega, hJ2 _ _ _ ⟨0 + 1, rfl, by omega, ?_, rfl⟩⟩
   rw [hsuc, SH, List.append_assoc]
  generalize hA : acc ++ Ge W T ds (Qd W T cs n' ls i 0) = A at *
  simp [Ca, M6]
  refine AA (Dm W T cs ls i 1 hr hl) ?_
  cases hf : BU W T cs ls i 1 with
  | false =>
    have nx := next2 [] (by simp [M4, hf])
    simp [M6, Ge] at nx
    simp
    exact nx
  | true =>
    have nx := next2 (allT W T cs n' (C9 W T ls i 1)) (by simp [M4, hf])
    have hzl : CI (C9 W T ls i 1) < CI ls := Ii h z (by omega) (by omega)
    have rcr := ih n' rfl (C9 W T ls i 1) A (by omega) (N5 hr hy hf) hlen
    have hll := AL W T ls i 1
    simp [M6] at nx
    simp
    (repeat' first | assumption | omega | apply And.intro) <;>
    ·refine AA (Cz W T cs ls i 1 hr hl hf) ?_
     simp [hll]
     (repeat' first | assumption | omega | apply And.intro) <;>
     ·refine AA rcr ?_
      simp [hll]
      exact nx
 ·have hsuc : Qd W T cs n' ls i (1 + 1) = Qd W T cs n' ls i 1 ++ M4 W T cs n' ls i 2 := by simpa using Qe W T cs n' ls i 1
  have bl := b1 1
  have kl := SI W T ds (Qd W T cs n' ls i 1)
  have hlen : (acc ++ Ge W T ds (Qd W T cs n' ls i 1)).length + 2 ^ n' ≤ 2 ^ 37 := by rw [List.length_append]; omega
  have next2 : ∀ x, M4 W T cs n' ls i 2 = x → C6 J2 (2 - 1) [(1, .ls 1 0 0 ls.length), (2, .fn 208 [.lp 0 1 0 0, .lp 0 2 0 0, .lp 0 3 0 0]), (3, .lp 0 4 0 0), (7, .v (.int .i64 i)), (38, .ls 1 5 0 2), (39, .v (.int .i64 2)), (40, .v (.int .i64 2)), (63, .fn 208 [.lp 0 1 0 0, .lp 0 2 0 0, .lp 0 3 0 0])]
    (M6 W T cs ds ls ((acc ++ Ge W T ds (Qd W T cs n' ls i 1)) ++ Ge W T ds x)) := by
   rintro x rfl
   refine ⟨_, by omega, hJ2 _ _ _ ⟨1 + 1, rfl, by omega, ?_, rfl⟩⟩
   rw [hsuc, SH, List.append_assoc]
  generalize hA : acc ++ Ge W T ds (Qd W T cs n' ls i 1) = A at *
  simp [Ca, M6]
  refine AA (Dm W T cs ls i 2 hr hl) ?_
  cases hf : BU W T cs ls i 2 with
  | false =>
    have nx := next2 [] (by simp [M4, hf])
    simp [M6, Ge] at nx
    simp
    exact nx
  | true =>
    have nx := next2 (allT W T cs n' (C9 W T ls i 2)) (by simp [M4, hf])
    have hzl : CI (C9 W T ls i 2) < CI ls := Ii h z (by omega) (by omega)
    have rcr := ih n' rfl (C9 W T ls i 2) A (by omega) (N5 hr hy hf) hlen
    have hll := AL W T ls i 2
    simp [M6] at nx
    simp
    (repeat' first | assumption | omega | apply And.intro) <;>
    ·refine AA (Cz W T cs ls i 2 hr hl hf) ?_
     simp [hll]
     (repeat' first | assumption | omega | apply And.intro) <;>
     ·refine AA rcr ?_
      simp [hll]
      exact nx
theorem ZY (W T : Int) (cs : List Bool) (ds : List Int) (hr : A0 W T cs = true) (hd : Cg cs ds = true) : ∀ (n : Nat) (ls : List Int) (acc : List (List Int)), CI ls ≤ n → AO W T cs ls = true → acc.length + 2 ^ n ≤ 2 ^ 37 →
  SoundAt Tryz.prog Ds [.agg [.v (.int .i64 W), .v (.int .i64 T), .sl 1 1 (AC cs)], .os 1 (AB ls), .fn 208 [.op [.v (.int .i64 W), .v (.int .i64 T), .sl 0 1 (AC cs)], .op [.sl 0 1 (AB ds)], .op [.os 1 (oss acc)]]]
   (.v (.bool true)) [.bot, .bot, .fn 208 [.op [.v (.int .i64 W), .v (.int .i64 T), .sl 0 1 (AC cs)], .op [.sl 0 1 (AB ds)], .op [.os 1 (oss (acc ++ Ge W T ds (allT W T cs n ls)))]]] := by
 intro n
 induction n with
 | zero => intro ls acc h1 h2 h3; exact dQ W T cs ds hr hd 0 (fun m h => by omega) ls acc h1 h2 h3
 | succ n ih =>
   intro ls acc h1 h2 h3
   refine dQ W T cs ds hr hd (n + 1) (fun m h => ?_) ls acc h1 h2 h3
   have : m = n := by omega
   subst this
   exact ih
@[simp] abbrev Fm : Nat := 188
def Fn : ACode := .seq (.reg [.o 2 .mv [.c (.os 1 [])]]) <| .seq (.reg [.m 3 0, .m 4 0, .n 5 4, .m 6 0, .n 7 6, .o 8 (.slice 1 false false true true) [.t 3, .t 5, .t 7], .m 2 8]) <| .ret
theorem Jo : cFn Tryz.prog Fm 9 [.t 2] Fn := ⟨Tryz.f188, _, Tryz.func188, rfl, by kernel_rfl, by kernel_rfl, by kernel_rfl, by kernel_rfl⟩
@[simp] abbrev Il : Nat := 177
def Im : ACode := .seq (.reg [.o 3 .box [.t 0], .o 6 .mv [.c (.os 1 [])], .o 7 .mv [.kb false]]) <| .seq (.reg [.la 9 3 3, .m 10 1, .m 11 2, .o 12 (.call 157 []) [.t 9, .t 10, .t 11], .m 8 12]) <| .seq (.seq (.reg [.m 13 8, .n 14 13, .o 15 (.bin .eql 0) [.t 14, .k 0]]) <| .cond (.t 15) ( .seq (.reg [.o 6 .mv [.c (.os 1 [])], .o 7 .mv [.kb false]]) <| .ret) ( .skip)) <| .seq (.own [(.op, .m 16 8), (.op, .o 17 (.iadr 1) [.t 16, .k 0]), (.take, .l 18 17), (.op, .m 6 18), (.op, .o 7 .mv [.kb true])]) <| .ret
theorem PE : cFn Tryz.prog Il 19 [.t 6, .t 7] Im := ⟨Tryz.f177, _, Tryz.func177, rfl, by kernel_rfl, by kernel_rfl, by kernel_rfl, by kernel_rfl⟩
@[simp] abbrev Kl : Nat := 185
def Km : ACode := .seq (.reg [.o 3 .box [.t 0], .o 6 .mv [.c (.os 1 [])], .o 7 .mv [.kb false]]) <| .seq (.seq (.reg [.la 8 3 3, .m 9 1, .m 10 2, .o 11 (.call 98 []) [.t 8, .t 9, .t 10], .o 12 (.un .not) [.t 11]]) <| .cond (.t 12) ( .seq (.reg [.o 6 .mv [.c (.os 1 [])], .o 7 .mv [.kb false]]) <| .ret) ( .skip)) <| .seq (.reg [.la 13 3 3, .m 14 1, .m 15 2, .o 16 (.call 177 []) [.t 13, .t 14, .t 15], .e 17 0 16, .e 18 1 16, .m 6 17, .m 7 18]) <| .ret
theorem Re : cFn Tryz.prog Kl 19 [.t 6, .t 7] Km := ⟨Tryz.f185, _, Tryz.func185, rfl, by kernel_rfl, by kernel_rfl, by kernel_rfl, by kernel_rfl⟩
@[simp] abbrev Qi : Nat := 133
def E4 : ACode := .seq (.seq (.reg [.m 25 11, .m 26 2, .n 27 26, .o 28 (.bin .lss 0) [.t 25, .t 27], .m 29 28, .mg 30 10 29 true, .g 31 (.bin .lss 0) [.t 30, .k 0] 29 true, .o 32 .pick [.t 29, .t 31, .kb false]]) <| .cond (.t 32) ( .skip) ( .exit 0)) <| .seq (.block 1 ( .seq (.reg [.la 35 3 3, .m 36 2, .m 37 11, .o 38 (.call 186 []) [.t 35, .t 36, .t 37]]) <| .cond (.t 38) ( .reg [.m 39 11, .m 10 39]) ( .skip))) <| .reg [.m 33 11, .o 34 (.bin .add 0) [.t 33, .k 1], .m 11 34]
def Qj : ACode := .seq (.reg [.o 3 .box [.t 0], .o 6 .mv [.k 0], .o 7 .mv [.k 0]]) <| .seq (.reg [.la 13 3 3, .m 14 1, .m 15 2, .o 16 (.call 185 []) [.t 13, .t 14, .t 15], .m 12 16, .e 17 0 12, .e 18 1 12, .m 8 17, .m 9 18]) <| .seq (.seq (.reg [.m 19 9, .o 20 (.un .not) [.t 19]]) <| .cond (.t 20) ( .seq (.reg [.o 6 .mv [.k (-1)], .o 7 .mv [.k 0]]) <| .ret) ( .skip)) <| .seq (.reg [.la 21 3 3, .m 22 1, .m 23 2, .o 24 (.call 184 []) [.t 21, .t 22, .t 23, .k 1], .m 10 24]) <| .seq (.seq (.reg [.o 11 .mv [.k 0]]) <| .block 0 ( .loop [(2, 1), (8, 1)] [2, 3, 8, 10, 11] E4)) <| .seq (.seq (.reg [.m 40 10, .o 41 (.bin .lss 0) [.t 40, .k 0]]) <| .cond (.t 41) ( .seq (.reg [.o 6 .mv [.k (-1)], .o 7 .mv [.k 0]]) <| .ret) ( .skip)) <| .seq (.draw ( .take (.m 42 10) <| .take (.m 43 8) <| .take (.m 44 10) <| .take (.o 45 (.iadr 1) [.t 43, .t 44]) <| .take (.m 6 42) <| .al (.l 46 45) ( .take (.m 7 46) <| .done))) <| .ret
theorem XP : cFn Tryz.prog Qi 47 [.t 6, .t 7] Qj := ⟨Tryz.f133, _, Tryz.func133, rfl, by kernel_rfl, by kernel_rfl, by kernel_rfl, by kernel_rfl⟩
@[simp] abbrev Gf : Nat := 145
abbrev DI : Plan := .take (.g 52 (.bin .eql 0) [.t 47, .t 51] 40 false) <| .take (.g 53 .pick [.t 40, .kb true, .t 52] 34 true) <| .take (.o 54 .pick [.t 34, .t 53, .kb false]) <| .take (.m 10 54) <| .done
def Av : ACode := .seq (.seq (.reg [.m 27 11, .m 28 2, .n 29 28, .o 30 (.bin .lss 0) [.t 27, .t 29]]) <| .cond (.t 30) ( .skip) ( .exit 2)) <| .seq (.block 3 ( .draw ( .take (.m 33 10) <| .take (.m 34 33) <| .take (.mg 35 2 34 true) <| .take (.mg 36 11 34 true) <| .take (.g 37 (.iadr 1) [.t 35, .t 36] 34 true) <| .al (.lg 38 37 34 true) ( .take (.g 39 (.bin .eql 0) [.t 38, .k 0] 34 true) <| .take (.mg 40 39 34 true) <| .take (.mg 41 8 40 false) <| .take (.mg 42 9 40 false) <| .take (.g 43 (.iadr 1) [.t 41, .t 42] 40 false) <| .take (.mg 45 11 40 false) <| .take (.mg 48 2 40 false) <| .take (.mg 49 11 40 false) <| .take (.g 50 (.iadr 1) [.t 48, .t 49] 40 false) <| .alt (.lg 44 43 40 false) ( .take (.g 46 (.iadr 1) [.t 44, .t 45] 40 false) <| .alt (.lg 47 46 40 false) ( .al (.lg 51 50 40 false) DI) <| .al (.lg 51 50 40 false) ( .al (.lg 47 46 40 false) DI)) <| .al (.lg 51 50 40 false) ( .al (.lg 44 43 40 false) ( .take (.g 46 (.iadr 1) [.t 44, .t 45] 40 false) <| .al (.lg 47 46 40 false) DI)))))) <| .reg [.m 31 11, .o 32 (.bin .add 0) [.t 31, .k 1], .m 11 32]
def Eh : ACode := .seq (.seq (.reg [.m 15 9, .m 16 8, .n 17 16, .o 18 (.bin .lss 0) [.t 15, .t 17], .m 19 18, .g 20 (.load true 3) [.t 3] 19 true, .mg 21 1 19 true, .mg 22 2 19 true, .g 23 (.call 59 []) [.t 20, .t 21, .t 22] 19 true, .o 24 .pick [.t 19, .t 23, .kb false]]) <| .cond (.t 24) ( .skip) ( .exit 0)) <| .seq (.block 1 ( .seq (.reg [.o 10 .mv [.kb true]]) <| .seq (.seq (.reg [.o 11 .mv [.k 0]]) <| .block 2 ( .loop [(1, 1), (2, 1), (8, 1)] [1, 2, 3, 8, 9, 10, 11] Av)) <| .seq (.reg [.m 55 10]) <| .cond (.t 55) ( .seq (.reg [.m 56 8, .m 57 9, .o 58 (.iadr 1) [.t 56, .t 57], .l 59 58, .m 6 59, .o 7 .mv [.kb true]]) <| .ret) ( .skip))) <| .reg [.m 25 9, .o 26 (.bin .add 0) [.t 25, .k 1], .m 9 26]
def Kn : ACode := .seq (.reg [.o 3 .box [.t 0], .o 6 .mv [.c (.os 1 [])], .o 7 .mv [.kb false]]) <| .seq (.reg [.la 12 3 3, .m 13 1, .o 14 (.call 202 []) [.t 12, .t 13], .m 8 14]) <| .seq (.seq (.reg [.o 9 .mv [.k 0]]) <| .block 0 ( .loop [(1, 1), (2, 1), (8, 1)] [1, 2, 3, 8, 9] Eh)) <| .seq (.reg [.o 60 (.bsl 1) [], .m 6 60, .o 7 .mv [.kb false]]) <| .ret
theorem Rf : cFn Tryz.prog Gf 61 [.t 6, .t 7] Kn := ⟨Tryz.f145, _, Tryz.func145, rfl, by kernel_rfl, by kernel_rfl, by kernel_rfl, by kernel_rfl⟩
@[simp] abbrev Qk : Nat := 82
def Bo : ACode := .seq (.seq (.reg [.m 20 11, .m 21 2, .n 22 21, .o 23 (.bin .lss 0) [.t 20, .t 22], .m 24 23, .mg 25 9 24 true, .o 26 .pick [.t 24, .t 25, .kb false]]) <| .cond (.t 26) ( .skip) ( .exit 0)) <| .seq (.block 1 ( .seq (.reg [.m 29 10, .o 30 (.bin .lss 0) [.t 29, .k 0], .m 31 30, .fg 32 2 3 31 true, .lg 33 32 31 true, .mg 34 11 31 true, .g 35 (.iadr 1) [.t 33, .t 34] 31 true, .lg 36 35 31 true, .o 37 .pick [.t 31, .t 36, .kb false], .m 38 37, .mg 39 2 38 true, .mg 40 11 38 true, .g 41 (.iadr 1) [.t 39, .t 40] 38 true, .lg 42 41 38 true, .g 43 (.bin .eql 0) [.t 42, .k 0] 38 true, .o 44 .pick [.t 38, .t 43, .kb false]]) <| .cond (.t 44) ( .reg [.m 45 11, .m 10 45]) ( .skip))) <| .reg [.m 27 11, .o 28 (.bin .add 0) [.t 27, .k 1], .m 11 28]
def CK : ACode := .seq (.seq (.reg [.m 49 12, .o 50 (.bin .geq 0) [.t 49, .k 0], .m 51 50, .mg 52 9 51 true, .o 53 .pick [.t 51, .t 52, .kb false]]) <| .cond (.t 53) ( .skip) ( .exit 2)) <| .seq (.block 3 ( .seq (.reg [.la 56 3 3, .m 57 1, .m 58 2, .m 59 12, .o 60 (.call 149 []) [.t 56, .t 57, .t 58, .t 59], .n 61 60, .o 62 (.bin .eql 0) [.t 61, .k 1]]) <| .cond (.t 62) ( .reg [.m 63 12, .m 10 63]) ( .skip))) <| .reg [.m 54 12, .o 55 (.bin .sub 0) [.t 54, .k 1], .m 12 55]
def Ql : ACode := .seq (.reg [.o 3 .box [.t 0], .o 6 .mv [.k 0], .o 7 .mv [.k 0]]) <| .seq (.reg [.la 14 3 3, .m 15 1, .m 16 2, .o 17 (.call 145 []) [.t 14, .t 15, .t 16], .m 13 17, .e 18 0 13, .e 19 1 13, .m 8 18, .m 9 19]) <| .seq (.reg [.o 10 .mv [.k (-1)]]) <| .seq (.seq (.reg [.o 11 .mv [.k 0]]) <| .block 0 ( .loop [(1, 1), (2, 1), (8, 1)] [1, 2, 3, 8, 9, 10, 11] Bo)) <| .seq (.seq (.reg [.m 46 2, .n 47 46, .o 48 (.bin .sub 0) [.t 47, .k 1], .m 12 48]) <| .block 2 ( .loop [(1, 1), (2, 1), (8, 1)] [1, 2, 3, 8, 9, 10, 12] CK)) <| .seq (.seq (.reg [.m 64 10, .o 65 (.bin .lss 0) [.t 64, .k 0]]) <| .cond (.t 65) ( .seq (.reg [.o 6 .mv [.k (-1)], .o 7 .mv [.k 0]]) <| .ret) ( .skip)) <| .seq (.draw ( .take (.m 66 10) <| .take (.m 67 8) <| .take (.m 68 10) <| .take (.o 69 (.iadr 1) [.t 67, .t 68]) <| .take (.m 6 66) <| .al (.l 70 69) ( .take (.m 7 70) <| .done))) <| .ret
theorem XQ : cFn Tryz.prog Qk 71 [.t 6, .t 7] Ql := ⟨Tryz.f82, _, Tryz.func82, rfl, by kernel_rfl, by kernel_rfl, by kernel_rfl, by kernel_rfl⟩
@[simp] abbrev Ls : Nat := 91
def FA : ACode := .seq (.seq (.reg [.m 6 5, .m 7 0, .n 8 7, .o 9 (.bin .lss 0) [.t 6, .t 8]]) <| .cond (.t 9) ( .skip) ( .exit 0)) <| .seq (.block 1 ( .own [(.op, .m 12 0), (.op, .m 13 5), (.op, .o 14 (.iadr 1) [.t 12, .t 13]), (.take, .l 15 14), (.op, .m 16 1), (.back 14, .o 17 (.call 90 []) [.t 15, .t 16]), (.op, .m 1 17)])) <| .reg [.m 10 5, .o 11 (.bin .add 0) [.t 10, .k 1], .m 5 11]
def Lt : ACode := .seq (.reg [.o 4 .mv [.k 0]]) <| .seq (.seq (.reg [.o 5 .mv [.k 0]]) <| .block 0 ( .loop [(0, 1)] [0, 1, 5, 19] FA)) <| .seq (.reg [.m 18 1, .m 4 18]) <| .ret
theorem Sj : cFn Tryz.prog Ls 19 [.t 4] Lt := ⟨Tryz.f91, _, Tryz.func91, rfl, by kernel_rfl, by kernel_rfl, by kernel_rfl, by kernel_rfl⟩
@[simp] abbrev Lu : Nat := 94
def FB : ACode := .seq (.seq (.reg [.m 6 5, .m 7 0, .n 8 7, .o 9 (.bin .lss 0) [.t 6, .t 8]]) <| .cond (.t 9) ( .skip) ( .exit 0)) <| .seq (.block 1 ( .seq (.reg [.m 12 0, .m 13 5, .o 14 (.iadr 1) [.t 12, .t 13], .l 15 14, .m 16 1, .o 17 (.call 93 []) [.t 15, .t 16], .m 1 17]) <| .seq (.reg [.m 18 1, .o 19 (.bin .lss 0) [.t 18, .k 0]]) <| .cond (.t 19) ( .seq (.reg [.o 4 .mv [.k (-1)]]) <| .ret) ( .skip))) <| .reg [.m 10 5, .o 11 (.bin .add 0) [.t 10, .k 1], .m 5 11]
def Lv : ACode := .seq (.reg [.o 4 .mv [.k 0]]) <| .seq (.seq (.reg [.o 5 .mv [.k 0]]) <| .block 0 ( .loop [(0, 1)] [0, 1, 5] FB)) <| .seq (.reg [.m 20 1, .m 4 20]) <| .ret
theorem Sk : cFn Tryz.prog Lu 21 [.t 4] Lv := ⟨Tryz.f94, _, Tryz.func94, rfl, by kernel_rfl, by kernel_rfl, by kernel_rfl, by kernel_rfl⟩
theorem YZ : ∀ xs : List Int, noVL (AB xs) = true
 | [] => by simp [noVL]
 | x :: xs => by show (noV (.v (.int .i64 x)) && noVL (AB xs)) = true; rw [YZ xs]; simp [noV]
theorem aM : ∀ ps : List (List Int), noVL (oss ps) = true
 | [] => by simp [noVL]
 | p :: ps => by show (noV (.os 1 (AB p)) && noVL (oss ps)) = true; rw [aM ps]; simp [noV, YZ]
theorem Qm (ps : List (List Int)) : SoundAt Tryz.prog Fm [.os 1 (oss ps)] (.os 1 (oss ps)) [.bot] := by
 refine AE (md := md0) (ms := [false]) Jo (by simp) ?_
 simp [Fn]
theorem Ko (W T : Int) (cs : List Bool) (ds ls : List Int) (hok : okB W T cs ds ls = true) :
  SoundAt Tryz.prog DH [.agg [.v (.int .i64 W), .v (.int .i64 T), .sl 0 1 (AC cs)], .sl 0 1 (AB ds), .sl 0 1 (AB ls)] (.os 1 (oss (Ge W T ds (allT W T cs cs.length ls)))) [.bot, .bot, .bot] := by
 refine AE (md := md2) (ms := [false, false, false]) LH (by simp) ?_
 have hok' := hok
 simp only [okB, Bool.and_eq_true] at hok'
 obtain ⟨hr, hd, hy⟩ := hok'
 have h36 := AZ hr
 have hl := Ap hy
 have hz : CI ls ≤ cs.length := by have := Jf ls; omega
 have hpow : 2 ^ cs.length ≤ 2 ^ 36 := Nat.pow_le_pow_right (by omega) h36
 have each := ZY W T cs ds hr hd cs.length ls [] hz hy (by simp only [List.length_nil, Nat.zero_add]; exact Nat.le_trans hpow (by decide))
 rw [jX, List.nil_append] at each
 simp [Fl]
 (repeat' first | assumption | omega | apply And.intro) <;>
 ·refine AA (Ag ls (by omega)) ?_
  simp
  (repeat' first | assumption | omega | apply And.intro) <;>
  ·refine AA each ?_
   simp [Ea]
   refine AA (Qm (Ge W T ds (allT W T cs cs.length ls))) ?_
   simp
theorem LI (W T : Int) (cs : List Bool) (ds ls : List Int) (hok : okB W T cs ds ls = true) :
  SoundAt Tryz.prog DH [.agg [.v (.int .i64 W), .v (.int .i64 T), .sl 1 1 (AC cs)], .sl 1 1 (AB ds), .sl 1 1 (AB ls)] (.os 1 (oss (Ge W T ds (allT W T cs cs.length ls)))) [.bot, .bot, .bot] := by
 refine SoundAt.lift (n := 3) (fun C S us hr => noOL_ok _ S us rfl hr) (by simp [noV, aM]) ?_
 have h := Ko W T cs ds ls hok
 simpa [vwL, vw] using h
def BL (W T : Int) (cs : List Bool) (ds ls : List Int) : Option (List Int) := if Af W T cs ds ls then (DG W T cs ds).find? (KD ls) else none
def kZ : Option (List Int) → AV
 | some x => .tup [.sl 0 1 (AB x), .v (.bool true)]
 | none => .tup [.os 1 [], .v (.bool false)]
def dR : Option (List Int) → AV
 | some x => .tup [.os 1 (AB x), .v (.bool true)]
 | none => .tup [.os 1 [], .v (.bool false)]
theorem aN {W T : Int} {cs : List Bool} {ds p : List Int} (h : p ∈ DG W T cs ds) : p.length = cs.length := by
 unfold DG at h
 split at h
 ·exact YY (List.mem_filter.1 h).1
 ·cases h
theorem ZZ {W T : Int} {cs : List Bool} {ds : List Int} : (DG W T cs ds).length ≤ 68719476736 := by
 unfold DG
 split
 ·exact Nat.le_trans (List.length_filter_le _ _) SF
 ·simp
theorem fm {ps : List (List Int)} {p : List Int → Bool} {i : Nat} (h : i < ps.length) (ha : ∀ j : Nat, j < i → p (pti ps j) = false) (hp : p (pti ps i) = true) : ps.find? p = some (pti ps i) := by
 rw [List.find?_eq_some_iff_getElem]
 refine ⟨hp, i, h, (ED h).symm, fun j hj => ?_⟩
 have h2 := ha j hj
 rw [ED (by omega)] at h2
 simp [h2]
theorem dS {ps : List (List Int)} {p : List Int → Bool} (ha : ∀ j : Nat, j < ps.length → p (pti ps j) = false) : ps.find? p = none := by
 rw [List.find?_eq_none]
 intro x hx
 obtain ⟨j, hj, rfl⟩ := List.getElem_of_mem hx
 have h2 := ha j hj
 rw [ED hj] at h2
 simp [h2]
def Ya (ls p : List Int) (n : Nat) : Bool := U6 n fun k => decide (ati ls k = 0) || decide (ati p k = ati ls k)
theorem bR (ls p : List Int) (n : Nat) : Ya ls p (n + 1) = (Ya ls p n && (decide (ati ls n = 0) || decide (ati p n = ati ls n))) := by simp [Ya, Gt]
theorem dT (ls p : List Int) : Ya ls p ls.length = KD ls p := rfl
theorem Nx (W T : Int) (cs : List Bool) (ds : List Int) (hb : cs.length < 2 ^ 40) (hd : ds.length < 2 ^ 40) :
  SoundAt Tryz.prog E9 [.agg [.v (.int .i64 W), .v (.int .i64 T), .sl 1 1 (AC cs)], .sl 1 1 (AB ds)] (.sl 0 1 (sls 0 (DG W T cs ds))) [.bot, .bot] := by
 have h := SoundAt.frozen (n := 2) (fun C S us hr => noOL_ok _ S us rfl hr) (PC W T cs ds hb hd)
 simpa [vw] using h
theorem Kp (W T : Int) (cs : List Bool) (ds ls : List Int) (hb : cs.length < 2 ^ 40) (hd : ds.length < 2 ^ 40) (hl : ls.length < 2 ^ 40) :
  SoundAt Tryz.prog Gf [.agg [.v (.int .i64 W), .v (.int .i64 T), .sl 1 1 (AC cs)], .sl 1 1 (AB ds), .sl 1 1 (AB ls)] (kZ (BL W T cs ds ls)) [.bot, .bot, .bot] := by
 refine AE (md := md0) (ms := [false, false, false]) Rf (by simp) ?_
 simp [Kn]
 refine AA (Nx W T cs ds hb hd) ?_
 simp
 refine AF (fun m E H => ∃ i : Nat, m = (DG W T cs ds).length - i ∧ i ≤ (DG W T cs ds).length ∧ (∀ j : Nat, j < i → KD ls (pti (DG W T cs ds) j) = false) ∧ H = [some (.box [.v (.int .i64 W), .v (.int .i64 T), .sl 1 1 (AC cs)])] ∧
  E = [(1, .sl 1 1 (AB ds)), (2, .sl 1 1 (AB ls)), (3, .lp 0 0 0 0), (8, .sl 0 1 (sls 0 (DG W T cs ds))), (9, .v (.int .i64 i))]) (DG W T cs ds).length ⟨0, by simp⟩ ?_
 rintro J hJ m E H ⟨i, rfl, hi, ha, rfl, rfl⟩
 by_cases h : i < (DG W T cs ds).length
 case neg =>
  have e : BL W T cs ds ls = none := by
   unfold BL; split
   ·exact dS fun j hj => ha j (by omega)
   ·rfl
  have hi' : i = (DG W T cs ds).length := by omega
  simp [Eh, e, kZ, hi']
 simp [Eh, h]
 refine AA (BW W T cs ds ls hb hd hl) ?_
 cases hf : Af W T cs ds ls with
 | false =>
   have e : BL W T cs ds ls = none := by simp [BL, hf]
   simp [e, kZ]
 | true =>
 obtain ⟨hr, e1, e2, _⟩ := Mg (Cq hf)
 have hpl : (pti (DG W T cs ds) i).length = cs.length := aN (LG h)
 simp
 refine AF (fun m E H => ∃ j : Nat, m = ls.length - j ∧ j ≤ ls.length ∧ H = [some (.box [.v (.int .i64 W), .v (.int .i64 T), .sl 1 1 (AC cs)])] ∧
  E = [(1, .sl 1 1 (AB ds)), (2, .sl 1 1 (AB ls)), (3, .lp 0 0 0 0), (8, .sl 0 1 (sls 0 (DG W T cs ds))), (9, .v (.int .i64 i)), (10, .v (.bool (Ya ls (pti (DG W T cs ds) i) j))), (11, .v (.int .i64 j))]) ls.length ⟨0, by simp [Ya, Gs]⟩ ?_
 rintro J2 hJ2 m2 E2 H2 ⟨j, rfl, hj, rfl, rfl⟩
 by_cases h2 : j < ls.length
 case neg =>
  have hj' : j = ls.length := by omega
  subst hj'
  rw [dT]
  cases hh : KD ls (pti (DG W T cs ds) i) with
  | true =>
    have e : BL W T cs ds ls = some (pti (DG W T cs ds) i) := by
     unfold BL
     rw [if_pos hf]
     exact fm h ha hh
    simp [Av, e, kZ, h]
  | false =>
    simp [Av]
    refine ⟨by have := ZZ (W := W) (T := T) (cs := cs) (ds := ds); omega, ?_⟩
    refine ⟨_, by omega, hJ _ _ _ ⟨i + 1, rfl, h, ?_, rfl, rfl⟩⟩
    intro k hk
    rcases Nat.lt_or_ge k i with h1 | h1
    ·exact ha k h1
    ·have : k = i := by omega
     subst this; exact hh
 have hs := bR ls (pti (DG W T cs ds) i) j
 have next : ∀ b : Bool, Ya ls (pti (DG W T cs ds) i) (j + 1) = b → C6 J2 (ls.length - j) [(1, .sl 1 1 (AB ds)), (2, .sl 1 1 (AB ls)), (3, .lp 0 0 0 0), (8, .sl 0 1 (sls 0 (DG W T cs ds))), (9, .v (.int .i64 i)), (10, .v (.bool b)), (11, .v (.int .i64 (j + 1)))]
   [some (.box [.v (.int .i64 W), .v (.int .i64 T), .sl 1 1 (AC cs)])] := by
  rintro b rfl
  exact ⟨_, by omega, hJ2 _ _ _ ⟨j + 1, rfl, h2, rfl, rfl⟩⟩
 have hjp : j < (pti (DG W T cs ds) i).length := by omega
 cases hh : Ya ls (pti (DG W T cs ds) i) j with
 | false =>
   have n := next false (by rw [hs, hh]; rfl)
   simp [Av, h2]
   exact ⟨by omega, n⟩
 | true =>
 by_cases z : ati ls j = 0
 ·have n := next true (by rw [hs, hh, z]; rfl)
  simp [Av, h2, z]
  exact ⟨by omega, n⟩
 by_cases ez : ati (pti (DG W T cs ds) i) j = ati ls j
 ·have n := next true (by rw [hs, hh, ez]; simp)
  simp [Av, h2, z, h, hjp, ez]
  exact ⟨by omega, n⟩
 ·have n := next (ati (pti (DG W T cs ds) i) j == ati ls j) (by rw [hs, hh]; simp [z, ez])
  simp [Av, h2, z, h, hjp]
  exact ⟨by omega, n⟩
theorem Ip (W T : Int) (cs : List Bool) (ds ls : List Int) (hok : okB W T cs ds ls = true) :
  SoundAt Tryz.prog Il [.agg [.v (.int .i64 W), .v (.int .i64 T), .sl 1 1 (AC cs)], .sl 1 1 (AB ds), .sl 1 1 (AB ls)] (dR ((DG W T cs ds).find? (KD ls))) [.bot, .bot, .bot] := by
 refine AE (md := md0) (ms := [false, false, false]) PE (by simp) ?_
 simp [Im]
 refine AA (LI W T cs ds ls hok) ?_
 have e : Ge W T ds (allT W T cs cs.length ls) = (DG W T cs ds).filter (KD ls) := fk hok
 rw [← List.head?_filter, ← e]
 cases hp : Ge W T ds (allT W T cs cs.length ls) with
 | nil => simp [dR]
 | cons p ps =>
   have h0 : ¬ ((ps.length : Int) + 1 = 0) := by omega
   simp [dR, h0]
   refine TZ rfl rfl rfl ?_
   intro u
   simp [Oz]
theorem Rg (W T : Int) (cs : List Bool) (ds ls : List Int) (hb : cs.length < 2 ^ 40) (hd : ds.length < 2 ^ 40) (hl : ls.length < 2 ^ 40) :
  SoundAt Tryz.prog Kl [.agg [.v (.int .i64 W), .v (.int .i64 T), .sl 1 1 (AC cs)], .sl 1 1 (AB ds), .sl 1 1 (AB ls)] (dR (BL W T cs ds ls)) [.bot, .bot, .bot] := by
 refine AE (md := md0) (ms := [false, false, false]) Re (by simp) ?_
 simp [Km]
 refine AA (Hf W T cs ds ls hb hd hl) ?_
 cases hf : Af W T cs ds ls with
 | false => simp [BL, hf, dR]
 | true =>
 simp
 refine AA (Ip W T cs ds ls (Cq hf)) ?_
 have e : BL W T cs ds ls = (DG W T cs ds).find? (KD ls) := by simp [BL, hf]
 rw [e]
 cases hr : (DG W T cs ds).find? (KD ls) with
 | none => simp [dR]
 | some x => simp [dR]
def KF (W T : Int) (cs : List Bool) (ds ls : List Int) : Int := if YT W T cs ds ls < 0 then Eg cs ls else YT W T cs ds ls
def LJ (W T : Int) (cs : List Bool) (ds ls : List Int) : Int := if (BL W T cs ds ls).isSome = true then KF W T cs ds ls else -1
def Ny (W T : Int) (cs : List Bool) (ds ls : List Int) : Int := match BL W T cs ds ls with
 | some x => if KF W T cs ds ls < 0 then 0 else ati x (KF W T cs ds ls)
 | none => 0
theorem LK {W T : Int} {cs : List Bool} {ds ls x : List Int} (h : BL W T cs ds ls = some x) : Af W T cs ds ls = true ∧ x.length = cs.length := by
 unfold BL at h
 split at h
 ·rename_i hf
  exact ⟨hf, aN (List.mem_of_find?_eq_some h)⟩
 ·cases h
theorem UV (W T : Int) (cs : List Bool) (ds ls : List Int) : KF W T cs ds ls = -1 ∨ ∃ k : Nat, k < ls.length ∧ KF W T cs ds ls = k := by
 unfold KF
 split
 ·rcases FJ cs ls with h | ⟨k, hk, he, _⟩
  ·exact .inl h
  ·exact .inr ⟨k, hk, he⟩
 ·rename_i h1
  rcases Fb W T cs ds ls with h | ⟨k, hk, he, _⟩
  ·omega
  ·exact .inr ⟨k, hk, he⟩
theorem XR (W T : Int) (cs : List Bool) (ds ls : List Int) (hb : cs.length < 2 ^ 40) (hd : ds.length < 2 ^ 40) (hl : ls.length < 2 ^ 40) :
  SoundAt Tryz.prog Qi [.agg [.v (.int .i64 W), .v (.int .i64 T), .sl 1 1 (AC cs)], .sl 1 1 (AB ds), .sl 1 1 (AB ls)] (.tup [.v (.int .i64 (LJ W T cs ds ls)), .v (.int .i64 (Ny W T cs ds ls))]) [.bot, .bot, .bot] := by
 refine AE (md := md0) (ms := [false, false, false]) XP (by simp) ?_
 simp [Qj]
 refine AA (Rg W T cs ds ls hb hd hl) ?_
 cases hx : BL W T cs ds ls with
 | none => simp [dR, LJ, Ny, hx]
 | some x =>
 obtain ⟨hf, hxl⟩ := LK hx
 have hok := Cq hf
 obtain ⟨hr, e1, e2, _⟩ := Mg hok
 have eh1 : LJ W T cs ds ls = KF W T cs ds ls := by simp [LJ, hx]
 have eh2 : Ny W T cs ds ls = if KF W T cs ds ls < 0 then 0 else ati x (KF W T cs ds ls) := by simp [Ny, hx]
 rw [eh1, eh2]
 simp [dR]
 refine AA (E6 W T cs ds ls 1 hok) ?_
 have e0 : EC (Je W T cs ds ls 1) ls.length = YT W T cs ds ls := rfl
 rw [e0]
 simp
 refine AF (fun m E H => ∃ (i : Nat) (c : Int), m = ls.length - i ∧ i ≤ ls.length ∧ (c = KF W T cs ds ls ∧ 0 ≤ c ∨ c = -1 ∧ YT W T cs ds ls < 0 ∧ ∀ j : Nat, j < i → Ev cs ls j = false) ∧
  H = [some (.box [.v (.int .i64 W), .v (.int .i64 T), .sl 1 1 (AC cs)]), some (.arr 1 (AB x))] ∧
  E = [(2, .sl 1 1 (AB ls)), (3, .lp 0 0 0 0), (8, .ls 1 1 0 x.length), (10, .v (.int .i64 c)), (11, .v (.int .i64 i))]) ls.length ⟨0, YT W T cs ds ls, by simp, by simp, ?_, by simp, by simp⟩ ?_
 ·rcases Fb W T cs ds ls with h | ⟨k, hk, he, _⟩
  ·right; exact ⟨h, by omega, by omega⟩
  ·left; refine ⟨by rw [KF, if_neg (by omega)], by omega⟩
 rintro J hJ m E H ⟨i, c, rfl, hi, hc, rfl, rfl⟩
 rcases hc with ⟨rfl, hc0⟩ | ⟨rfl, ho, hbr⟩
 ·
  rcases UV W T cs ds ls with h | ⟨k, hk, he⟩
  ·omega
  rw [he]
  have hkx : k < x.length := by omega
  have hk0 : ¬ (k : Int) < 0 := by omega
  simp [E4, hk0, hkx]
 by_cases h : i < ls.length
 case neg =>
  have hi' : i = ls.length := by omega
  subst hi'
  have he : KF W T cs ds ls = -1 := by
   rw [KF, if_pos ho]; exact Bk hbr
  simp [E4, he]
 have one := Jd W T cs ls i (by omega) e2
 have hii : (i : Int) < cs.length := by omega
 simp [E4, h]
 refine AA one ?_
 cases hb2 : Ev cs ls i with
 | true =>
   have hb' : decide (0 ≤ (i : Int) ∧ (i : Int) < cs.length ∧ atb cs i = true ∧ ati ls i = 0) = true := by
    simp [Ev] at hb2 ⊢; exact ⟨by omega, hb2⟩
   rw [hb']
   simp
   have he : KF W T cs ds ls = i := by rw [KF, if_pos ho]; exact B7 h hb2 hbr
   exact ⟨by omega, _, by omega, hJ _ _ _ ⟨i + 1, i, rfl, h, .inl ⟨he.symm, by omega⟩, rfl, rfl⟩⟩
 | false =>
   have hb' : decide (0 ≤ (i : Int) ∧ (i : Int) < cs.length ∧ atb cs i = true ∧ ati ls i = 0) = false := by
    simp [Ev] at hb2 ⊢; intro _; exact hb2
   rw [hb']
   simp
   refine ⟨by omega, _, by omega, hJ _ _ _ ⟨i + 1, -1, rfl, h, .inr ⟨rfl, ho, ?_⟩, rfl, rfl⟩⟩
   intro j hj
   rcases Nat.lt_or_ge j i with h1 | h1
   ·exact hbr j h1
   ·have : j = i := by omega
    subst this; exact hb2
theorem XS (W T : Int) (cs : List Bool) (ds ls : List Int) (hb : cs.length < 2 ^ 40) (hd : ds.length < 2 ^ 40) (hl : ls.length < 2 ^ 40) :
  SoundAt Tryz.prog Qk [.agg [.v (.int .i64 W), .v (.int .i64 T), .sl 1 1 (AC cs)], .sl 1 1 (AB ds), .sl 1 1 (AB ls)] (.tup [.v (.int .i64 (LJ W T cs ds ls)), .v (.int .i64 (Ny W T cs ds ls))]) [.bot, .bot, .bot] := by
 refine AE (md := md0) (ms := [false, false, false]) XQ (by simp) ?_
 simp [Ql]
 refine AA (Kp W T cs ds ls hb hd hl) ?_
 cases hx : BL W T cs ds ls with
 | none =>
   have eh1 : LJ W T cs ds ls = -1 := by simp [LJ, hx]
   have eh2 : Ny W T cs ds ls = 0 := by simp [Ny, hx]
   rw [eh1, eh2]
   simp [kZ]
   refine AF (fun m E H => H = [some (.box [.v (.int .i64 W), .v (.int .i64 T), .sl 1 1 (AC cs)]), some (.arr 1 [])] ∧
    E = [(1, .sl 1 1 (AB ds)), (2, .sl 1 1 (AB ls)), (3, .lp 0 0 0 0), (8, .ls 1 1 0 0), (9, .v (.bool false)), (10, .v (.int .i64 (-1))), (11, .v (.int .i64 0))]) 0 ⟨by simp, by simp⟩ ?_
   rintro J hJ m E H ⟨rfl, rfl⟩
   simp [Bo]
   (repeat' first | omega | apply And.intro | intro _) <;>
   ·refine AF (fun m E H => H = [some (.box [.v (.int .i64 W), .v (.int .i64 T), .sl 1 1 (AC cs)]), some (.arr 1 [])] ∧
     E = [(1, .sl 1 1 (AB ds)), (2, .sl 1 1 (AB ls)), (3, .lp 0 0 0 0), (8, .ls 1 1 0 0), (9, .v (.bool false)), (10, .v (.int .i64 (-1))), (12, .v (.int .i64 (ls.length - 1)))]) 0 ⟨rfl, rfl⟩ ?_
    rintro J hJ m E H ⟨rfl, rfl⟩
    by_cases h : (0 : Int) ≤ ls.length - 1
    ·simp [CK, h]
    ·simp [CK, h]
 | some x =>
 obtain ⟨hf, hxl⟩ := LK hx
 have hok := Cq hf
 obtain ⟨hr, e1, e2, _⟩ := Mg hok
 have eh1 : LJ W T cs ds ls = KF W T cs ds ls := by simp [LJ, hx]
 have eh2 : Ny W T cs ds ls = if KF W T cs ds ls < 0 then 0 else ati x (KF W T cs ds ls) := by simp [Ny, hx]
 rw [eh1, eh2]
 simp [kZ]
 refine AF (fun m E H => ∃ (i : Nat) (c : Int), m = ls.length - i ∧ i ≤ ls.length ∧ (c = Eg cs ls ∧ 0 ≤ c ∨ c = -1 ∧ ∀ j : Nat, j < i → Ev cs ls j = false) ∧
  H = [some (.box [.v (.int .i64 W), .v (.int .i64 T), .sl 1 1 (AC cs)])] ∧
  E = [(1, .sl 1 1 (AB ds)), (2, .sl 1 1 (AB ls)), (3, .lp 0 0 0 0), (8, .sl 0 1 (AB x)), (9, .v (.bool true)), (10, .v (.int .i64 c)), (11, .v (.int .i64 i))]) ls.length ⟨0, -1, by simp⟩ ?_
 rintro J hJ m E H ⟨i, c, rfl, hi, hc, rfl, rfl⟩
 by_cases h : i < ls.length
 case pos =>
  have next : ∀ c' : Int, (c' = Eg cs ls ∧ 0 ≤ c' ∨ c' = -1 ∧ ∀ j : Nat, j < i + 1 → Ev cs ls j = false) → C6 J (ls.length - i) [(1, .sl 1 1 (AB ds)), (2, .sl 1 1 (AB ls)), (3, .lp 0 0 0 0), (8, .sl 0 1 (AB x)), (9, .v (.bool true)), (10, .v (.int .i64 c')), (11, .v (.int .i64 (i + 1)))]
    [some (.box [.v (.int .i64 W), .v (.int .i64 T), .sl 1 1 (AC cs)])] := by
   intro c' hc'
   exact ⟨_, by omega, hJ _ _ _ ⟨i + 1, c', rfl, h, hc', rfl, rfl⟩⟩
  have h2 : i < cs.length := by omega
  rcases hc with ⟨rfl, hc0⟩ | ⟨rfl, hbr⟩
  ·have hc1 : ¬ Eg cs ls < 0 := by omega
   simp [Bo, h, hc1]
   exact ⟨by omega, next _ (.inl ⟨rfl, hc0⟩)⟩
  have up : Ev cs ls i = false → ∀ j : Nat, j < i + 1 → Ev cs ls j = false := by
   intro hx2 j hj
   rcases Nat.lt_or_ge j i with h1 | h1
   ·exact hbr j h1
   ·have : j = i := by omega
    subst this; exact hx2
  cases hcc : atb cs i with
  | false =>
    simp [Bo, h, h2, hcc]
    exact ⟨by omega, next _ (.inr ⟨rfl, up (by simp [Ev, hcc])⟩)⟩
  | true =>
  by_cases z : ati ls i = 0
  ·have he : Eg cs ls = i := B7 h (by simp [Ev, hcc, z]) hbr
   simp [Bo, h, h2, hcc, z]
   exact ⟨by omega, next _ (.inl ⟨he.symm, by omega⟩)⟩
  ·simp [Bo, h, h2, hcc, z]
   exact ⟨by omega, next _ (.inr ⟨rfl, up (by simp [Ev, z])⟩)⟩
 have hi' : i = ls.length := by omega
 subst hi'
 have hcb : c = Eg cs ls := by
  rcases hc with ⟨h1, _⟩ | ⟨h1, h2⟩
  ·exact h1
  ·rw [h1]; exact (Bk h2).symm
 subst hcb
 clear hJ hc
 simp [Bo]
 refine ⟨by omega, ?_⟩
 refine AF (fun m E H => ∃ (i : Nat) (c : Int), m = i ∧ i ≤ ls.length ∧ (c = Eg cs ls ∧ (∀ j : Nat, i ≤ j → j < ls.length → Je W T cs ds ls 1 j = false) ∨ ∃ j : Nat, i ≤ j ∧ j < ls.length ∧ c = j ∧ Je W T cs ds ls 1 j = true ∧ ∀ j' : Nat, i ≤ j' → j' < j → Je W T cs ds ls 1 j' = false) ∧
  H = [some (.box [.v (.int .i64 W), .v (.int .i64 T), .sl 1 1 (AC cs)])] ∧
  E = [(1, .sl 1 1 (AB ds)), (2, .sl 1 1 (AB ls)), (3, .lp 0 0 0 0), (8, .sl 0 1 (AB x)), (9, .v (.bool true)), (10, .v (.int .i64 c)), (12, .v (.int .i64 ((i : Int) - 1)))]) ls.length ⟨ls.length, Eg cs ls, rfl, Nat.le_refl _, .inl ⟨rfl, fun j h1 h2 => by omega⟩, rfl, rfl⟩ ?_
 rintro J hJ m E H ⟨i, c, rfl, hi, hc, rfl, rfl⟩
 cases m with
 | zero =>
   have hcc : c = KF W T cs ds ls := by
    rcases hc with ⟨h1, h2⟩ | ⟨j, h1, h2, h3, h4, h5⟩
    ·have ho : YT W T cs ds ls = -1 := Bk fun j hj => h2 j (by omega) hj
     rw [h1, KF, if_pos (by omega)]
    ·have ho : YT W T cs ds ls = j := B7 h2 h4 fun j' hj' => h5 j' (by omega) hj'
     rw [h3, KF, if_neg (by omega), ho]
   subst hcc
   rcases UV W T cs ds ls with h | ⟨k, hk, he⟩
   ·simp [CK, h]
   ·have hkx : k < x.length := by omega
    have hk0 : ¬ (k : Int) < 0 := by omega
    simp [CK, he, hk0, hkx]
 | succ i =>
   have h : i < ls.length := by omega
   have two := HF W T cs ds ls i hb hd hl
   have ho : QJ W T cs ds ls i = GV W T cs ds ls i := by simp [QJ, hf]
   rw [ho] at two
   have hop : (GV W T cs ds ls i).length ≤ 4 := FI ..
   have ei : ((i : Int) + 1 - 1) = i := by omega
   have next : ∀ c' : Int, (c' = Eg cs ls ∧ (∀ j : Nat, i ≤ j → j < ls.length → Je W T cs ds ls 1 j = false) ∨ ∃ j : Nat, i ≤ j ∧ j < ls.length ∧ c' = j ∧ Je W T cs ds ls 1 j = true ∧ ∀ j' : Nat, i ≤ j' → j' < j → Je W T cs ds ls 1 j' = false) →
     C6 J (i + 1) [(1, .sl 1 1 (AB ds)), (2, .sl 1 1 (AB ls)), (3, .lp 0 0 0 0), (8, .sl 0 1 (AB x)), (9, .v (.bool true)), (10, .v (.int .i64 c')), (12, .v (.int .i64 ((i : Int) - 1)))]
     [some (.box [.v (.int .i64 W), .v (.int .i64 T), .sl 1 1 (AC cs)])] := by
    intro c' hc'
    exact ⟨_, by omega, hJ _ _ _ ⟨i, c', rfl, by omega, hc', rfl, rfl⟩⟩
   simp [CK, ei]
   refine AA two ?_
   by_cases hn : (GV W T cs ds ls i).length = 1
   ·have hbare : 0 ≤ (i : Int) ∧ (i : Int) < cs.length ∧ atb cs i = true ∧ ati ls i = 0 := by
     apply Decidable.byContradiction
     intro hx
     rw [WB W T cs ds ls i hx] at hn
     simp at hn
    have hh : Je W T cs ds ls 1 i = true := by simp [Je, hbare.2.2.1, hbare.2.2.2, hn]
    simp [hn]
    exact ⟨by omega, next _ (.inr ⟨i, Nat.le_refl _, h, rfl, hh, fun j' h1 h2 => by omega⟩)⟩
   ·have hn' : ¬ ((GV W T cs ds ls i).length : Int) = 1 := by omega
    have hh : Je W T cs ds ls 1 i = false := by simp [Je, hn']
    simp [hn']
    refine ⟨by omega, next _ ?_⟩
    rcases hc with ⟨h1, h2⟩ | ⟨j, h1, h2, h3, h4, h5⟩
    ·refine .inl ⟨h1, fun j hj1 hj2 => ?_⟩
     rcases Nat.lt_or_ge i j with h6 | h6
     ·exact h2 j h6 hj2
     ·have : j = i := by omega
      subst this; exact hh
    ·refine .inr ⟨j, by omega, h2, h3, h4, fun j' hj1 hj2 => ?_⟩
     rcases Nat.lt_or_ge i j' with h6 | h6
     ·exact h5 j' h6 hj2
     ·have : j' = i := by omega
      subst this; exact hh
theorem aO : ∀ {l m : List Int}, l.Nodup → (∀ x ∈ l, x ∈ m) → l.length ≤ m.length
 | [], m, _, _ => by simp
 | x :: l, m, hn, hs => by
   rw [List.nodup_cons] at hn
   have hx : x ∈ m := hs x (by simp)
   have h1 := aO (l := l) (m := m.erase x) hn.2 (fun y hy => by
    rw [List.mem_erase_of_ne (by intro e; subst e; exact hn.1 hy)]
    exact hs y (by simp [hy]))
   rw [List.length_erase_of_mem hx] at h1
   have : 0 < m.length := List.length_pos_of_mem hx
   simp only [List.length_cons]; omega
theorem dU {W T : Int} {ds a b : List Int} (hl : a.length = b.length) (h : ∀ k : Nat, k < a.length → ati a k = 0 ∨ ati b k = ati a k) : List.Sublist (B3 W T ds a) (B3 W T ds b) := by
 have : ∀ n, n ≤ a.length → List.Sublist (Aw W T ds a n) (Aw W T ds b n) := by
  intro n
  induction n with
  | zero => intro _; simp [Aw]
  | succ n ih =>
    intro hn
    rw [FG, FG]
    rcases h n (by omega) with h0 | h0
    ·rw [if_neg (by omega)]
     exact (ih (by omega)).append (List.nil_sublist _)
    ·rw [h0]
     exact (ih (by omega)).append (List.Sublist.refl _)
 have e := this a.length (Nat.le_refl _)
 unfold B3
 rw [← hl]; exact e
theorem fp {a b : List Int} (h : List.Sublist a b) (hb : KP b = true) : KP a = true := by
 simp only [KP, decide_eq_true_eq] at hb ⊢
 exact h.nodup hb
theorem dV {W T : Int} {ds a b : List Int} (hl : a.length = b.length) (h : KD a b = true) : List.Sublist (B3 W T ds a) (B3 W T ds b) :=
 dU hl fun k hk => hasB_iff.1 h k hk
theorem dW {a b c : List Int} (hl : a.length = b.length) (h1 : KD a b = true) (h2 : KD b c = true) : KD a c = true := by
 rw [hasB_iff] at *
 intro k hk
 rcases h1 k hk with h | h
 ·exact .inl h
 ·rcases h2 k (by omega) with h3 | h3
  ·left; omega
  ·right; omega
def LL (W T : Int) (ls : List Int) (cell : Int) : List Int := (ls.set (AJ W T cell (ati ls cell)).toNat 0).set cell.toNat 0
theorem M7 (W T : Int) (ls : List Int) (cell : Int) : (LL W T ls cell).length = ls.length := by simp [LL]
theorem XT {W T : Int} {cs : List Bool} {ls : List Int} {k : Nat} (hr : A0 W T cs = true) (hy : AO W T cs ls = true) (hk : k < ls.length) (hv : ati ls k ≠ 0) :
  ∃ t : Nat, AJ W T k (ati ls k) = t ∧ t < ls.length ∧ t ≠ k ∧ ∀ j : Nat, ati (LL W T ls k) j = if j = k then 0 else if j = t then 0 else ati ls j := by
 obtain ⟨w1, w2, t1, t2, l1, _⟩ := CM hr
 have hl := Ap hy
 obtain ⟨v1, v4, g3, g4, g5, g6⟩ := Ik hy hk hv
 obtain ⟨_, _, _, b4, b5⟩ := DU (W := W) (T := T) (k := k) (way := ati ls k) w1 (by omega) (by omega) g4
 refine ⟨(AJ W T k (ati ls k)).toNat, by omega, by omega, by omega, fun j => ?_⟩
 unfold LL
 rw [MR (by simpa using hk), MR (by omega)]
 simp
theorem dX {W T : Int} {cs : List Bool} {ls : List Int} {k : Nat} (hr : A0 W T cs = true) (hy : AO W T cs ls = true) (hk : k < ls.length) (hv : ati ls k ≠ 0) : AO W T cs (LL W T ls k) = true := by
 obtain ⟨w1, w2, t1, t2, l1, _⟩ := CM hr
 have hl := Ap hy
 obtain ⟨t, e, ht, htk, hat⟩ := XT hr hy hk hv
 obtain ⟨v1, v4, g3, g4, g5, g6⟩ := Ik hy hk hv
 have sb := DU (W := W) (T := T) (k := k) (way := ati ls k) w1 (by omega) (by omega) g4
 rw [e] at g6 sb
 simp only [AO, Bool.and_eq_true, decide_eq_true_eq, Co, M7]
 refine ⟨hl, fun j hj => ?_⟩
 simp only [J5, decide_eq_true_eq]
 rw [hat j]
 by_cases e1 : j = k
 ·rw [if_pos e1]; exact .inl rfl
 rw [if_neg e1]
 by_cases e2 : j = t
 ·rw [if_pos e2]; exact .inl rfl
 rw [if_neg e2]
 by_cases e3 : ati ls j = 0
 ·exact .inl e3
 right
 obtain ⟨u1, u4, q3, q4, q5, q6⟩ := Ik hy hj e3
 have sj := DU (W := W) (T := T) (k := j) (way := ati ls j) w1 (by omega) (by omega) q4
 obtain ⟨s, hs⟩ : ∃ s : Nat, AJ W T j (ati ls j) = s := ⟨(AJ W T j (ati ls j)).toNat, by omega⟩
 rw [hs] at q4 q5 q6 sj ⊢
 refine ⟨u1, u4, q3, q4, q5, ?_⟩
 rw [hat s]
 have n1 : s ≠ k := by
  intro h
  subst h
  have h2 := sj.1
  rw [← q6, e] at h2
  omega
 have n2 : s ≠ t := by
  intro h
  subst h
  have h2 := sj.1
  rw [← q6, g6, sb.1] at h2
  omega
 rw [if_neg n1, if_neg n2]; exact q6
theorem AR {W T : Int} {cs : List Bool} {ds ls : List Int} (h : Af W T cs ds ls = true) : A0 W T cs = true ∧ Cg cs ds = true ∧ AO W T cs ls = true ∧ KP (B3 W T ds ls) = true := by
 simp only [Af, okB, Bool.and_eq_true] at h
 exact ⟨h.1.1, h.1.2.1, h.1.2.2, h.2⟩
theorem bS (W T : Int) (ds ls : List Int) : (B3 W T ds ls).length = JA ls := by
 have : ∀ n, n ≤ ls.length → (Aw W T ds ls n).length = JA (ls.take n) := by
  intro n
  induction n with
  | zero => intro _; simp [Aw, JA]
  | succ n ih =>
    intro hn
    rw [FG, List.length_append, ih (by omega), UR (by omega)]
    congr 1
    by_cases h : ati ls n = 1 ∨ ati ls n = 2
    ·rw [if_pos h]
     have : MH (ati ls n) = true := by simpa [MH] using h
     simp [this]
    ·rw [if_neg h]
     have : MH (ati ls n) = false := by simpa [MH] using h
     simp [this]
 have e := this ls.length (Nat.le_refl _)
 rw [List.take_length] at e
 exact e
theorem fq {W T : Int} {cs : List Bool} {ls : List Int} {k : Nat} {way : Int} (hr : A0 W T cs = true) (hl : ls.length = cs.length) (hf : BU W T cs ls k way = true) : KD ls (C9 W T ls k way) = true := by
 obtain ⟨t, e, t1, t2, t3, _, _, _, _, z1, z2, hat⟩ := FK hr hl hf
 rw [hasB_iff]
 intro j hj
 rw [hat j]
 by_cases e1 : j = t
 ·subst e1; exact .inl z2
 by_cases e2 : j = k
 ·subst e2; exact .inl z1
 rw [if_neg e1, if_neg e2]; exact .inr rfl
theorem aP {ls : List Int} {i : Nat} {v : Int} (h : i < ls.length) (hz : ati ls i = 0) : JA (ls.set i v) = JA ls + if MH v then 1 else 0 := by
 have he : ls[i] = 0 := by simpa [ati, h] using hz
 unfold JA
 rw [List.countP_set h, he]
 simp [MH]
theorem fr {W T : Int} {cs : List Bool} {ls : List Int} {k : Nat} {way : Int} (hr : A0 W T cs = true) (hl : ls.length = cs.length) (hf : BU W T cs ls k way = true) : JA (C9 W T ls k way) = JA ls + 1 := by
 obtain ⟨t, e, t1, t2, t3, v1, v4, _, _, z1, z2, hat⟩ := FK hr hl hf
 unfold C9
 have h1 : ati (ls.set k way) t = 0 := by rw [MR t2, if_neg t3]; exact z2
 rw [e]
 simp only [Int.toNat_natCast]
 rw [aP (by simpa using t1) h1, aP t2 z1]
 have : way = 1 ∨ way = 2 ∨ way = 3 ∨ way = 4 := by omega
 rcases this with rfl | rfl | rfl | rfl <;> simp [MH, Cn]
theorem Yb (W T : Int) (cs : List Bool) (ds ls : List Int) (cell : Int) : GV W T cs ds ls cell = [1, 2, 3, 4].filter (QI W T cs ds ls cell) := by
 simp only [GV, G0, List.range_succ, List.range_zero, List.nil_append, List.flatMap_append, List.flatMap_cons, List.flatMap_nil, List.append_nil, List.filter_cons, List.filter_nil]
 cases h1 : QI W T cs ds ls cell 1 <;> cases h2 : QI W T cs ds ls cell 2 <;> cases h3 : QI W T cs ds ls cell 3 <;> cases h4 : QI W T cs ds ls cell 4 <;> simp [h1, h2, h3, h4]
theorem opts_mem {W T : Int} {cs : List Bool} {ds ls : List Int} {cell x : Int} : x ∈ GV W T cs ds ls cell ↔ QI W T cs ds ls cell x = true ∧ 1 ≤ x ∧ x ≤ 4 := by
 rw [Yb, List.mem_filter]
 simp only [List.mem_cons, List.not_mem_nil, or_false]
 constructor
 ·rintro ⟨h1, h2⟩; exact ⟨h2, by omega, by omega⟩
 ·rintro ⟨h1, h2, h3⟩; exact ⟨by omega, h1⟩
theorem Yc {W T : Int} {cs : List Bool} {ds p : List Int} (h : Cx W T cs ds p = true) : Af W T cs ds p = true ∧ J7 cs p = true := by
 simpa only [Cx, Bool.and_eq_true] using h
theorem jg {cs : List Bool} {p : List Int} (h : J7 cs p = true) {k : Nat} (hk : k < cs.length) (hc : atb cs k = true) : ati p k ≠ 0 := by
 rw [J7, Co] at h
 have := h k hk
 simpa [IG, hc] using this
theorem bT {W T : Int} {cs : List Bool} {ds ls p : List Int} {k : Nat} (hy : AO W T cs ls = true) (hp : Cx W T cs ds p = true) (hs : KD ls p = true) (hk : k < cs.length) (hc : atb cs k = true) (hz : ati ls k = 0) :
  QI W T cs ds ls k (ati p k) = true ∧ 1 ≤ ati p k ∧ ati p k ≤ 4 ∧ KD (C9 W T ls k (ati p k)) p = true := by
 obtain ⟨hf, hfull⟩ := Yc hp
 obtain ⟨hr, hd, hyp, ho⟩ := AR hf
 have hl := Ap hy
 have hlp := Ap hyp
 obtain ⟨w1, w2, t1, t2, l1, _⟩ := CM hr
 have hv := jg hfull hk hc
 obtain ⟨v1, v4, g3, g4, g5, g6⟩ := Ik hyp (k := k) (by omega) hv
 obtain ⟨v, hvv⟩ : ∃ v, ati p k = v := ⟨_, rfl⟩
 rw [hvv] at v1 v4 g4 g5 g6 hv ⊢
 have sb := DU (W := W) (T := T) (k := k) (way := v) w1 (by omega) (by omega) g4
 obtain ⟨t, ht⟩ : ∃ t : Nat, AJ W T k v = t := ⟨(AJ W T k v).toNat, by omega⟩
 have hzt : ati ls t = 0 := by
  rcases hasB_iff.1 hs t (by omega) with h | h
  ·exact h
  ·exfalso
   rw [ht] at g6
   have := UT hr hy (k := k) (t := t) (way := v) (by omega) ht (by rw [← h]; exact g6)
   omega
 have hfree : BU W T cs ls k v = true := by
  simp only [BU, decide_eq_true_eq]
  exact ⟨by omega, by omega, g4, hc, g5, hz, by rw [ht]; exact hzt⟩
 have hh := dL hr hl hfree hs hvv g6
 refine ⟨?_, v1, v4, hh⟩
 simp only [QI, Bool.and_eq_true]
 exact ⟨hfree, fp (dV (by rw [AL]; omega) hh) ho⟩
theorem bU {W T : Int} {cs : List Bool} {ds ls p : List Int} (hy : AO W T cs ls = true) (hp : Cx W T cs ds p = true) (hs : KD ls p = true) : KD (BN W T cs ds ls) p = true := by
 have hl := Ap hy
 rcases Fb W T cs ds ls with h | ⟨k, hk, he, hc, hz, hol, hob, hw⟩
 ·rw [BN, if_pos (by omega)]; exact hs
 ·rw [BN, he, if_neg (by omega)]
  obtain ⟨o1, o2, o3, o4⟩ := bT hy hp hs (by omega) hc hz
  have hm : ati p k ∈ GV W T cs ds ls k := opts_mem.2 ⟨o1, o2, o3⟩
  rw [hol, List.mem_singleton] at hm
  rw [← hm]; exact o4
theorem bV {W T : Int} {cs : List Bool} {ds ls : List Int} (hr : A0 W T cs = true) (hl : ls.length = cs.length) : KD ls (BN W T cs ds ls) = true := by
 rcases Fb W T cs ds ls with h | ⟨k, hk, he, hc, hz, hol, hob, hw⟩
 ·rw [BN, if_pos (by omega)]; exact Kk ls
 ·rw [BN, he, if_neg (by omega)]
  exact fq hr hl (QK hob)
theorem Za {W T : Int} {cs : List Bool} {ds ls : List Int} (hr : A0 W T cs = true) (hl : ls.length = cs.length) (hb : Bu W T cs ds ls = true) : JA (BN W T cs ds ls) = JA ls + 1 := by
 rcases Fb W T cs ds ls with h | ⟨k, hk, he, hc, hz, hol, hob, hw⟩
 ·simp [Bu, h] at hb
 ·rw [BN, he, if_neg (by omega)]
  exact fr hr hl (QK hob)
theorem M8 {W T : Int} {cs : List Bool} {ds : List Int} : ∀ (n : Nat) (ls : List Int), CI ls ≤ n → Af W T cs ds ls = true →
  Af W T cs ds (Au W T cs ds n ls) = true ∧ KD ls (Au W T cs ds n ls) = true ∧ Bu W T cs ds (Au W T cs ds n ls) = false ∧
  ∀ p, Cx W T cs ds p = true → KD ls p = true → KD (Au W T cs ds n ls) p = true
 | 0, ls, hz, hf => by
   refine ⟨hf, Kk ls, ?_, fun p _ h => h⟩
   cases hb : Bu W T cs ds (Au W T cs ds 0 ls) with
   | false => rfl
   | true =>
     have := Mu hb
     rw [Au] at this
     omega
 | n + 1, ls, hz, hf => by
   rw [Au]
   obtain ⟨hr, hd, hy, ho⟩ := AR hf
   split
   ·rename_i hb
    have hz2 := Mu hb
    obtain ⟨i1, i2, i3, i4⟩ := M8 n (BN W T cs ds ls) (by omega) (LE hf)
    exact ⟨i1, dW (by rw [Hh]) (bV hr (Ap hy)) i2, i3, fun p hp hs => i4 p hp (bU hy hp hs)⟩
   ·rename_i hb
    exact ⟨hf, Kk ls, by simpa using hb, fun p _ h => h⟩
theorem OX {W T : Int} {cs : List Bool} {ds ls : List Int} (hf : Af W T cs ds ls = true) :
  Af W T cs ds (BA W T cs ds ls) = true ∧ KD ls (BA W T cs ds ls) = true ∧ Bu W T cs ds (BA W T cs ds ls) = false ∧
  ∀ p, Cx W T cs ds p = true → KD ls p = true → KD (BA W T cs ds ls) p = true :=
 M8 ls.length ls (Jf ls) hf
end Go.Proofs.Dev
namespace Go.Proofs
open Go.Shelf
namespace Dev
end Dev
end Go.Proofs
