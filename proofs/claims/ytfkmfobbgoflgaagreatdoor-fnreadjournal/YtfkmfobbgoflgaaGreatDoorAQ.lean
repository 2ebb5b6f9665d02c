/- Contracts of the functions of the program over slots and rows, each proved against the program itself; no condition beyond those that each theorem names. -/
import Derived.Test.YtfkmfobbgoflgaaGreatDoorAP
import Derived.Test.YtfkmfobbgoflgaaGreatDoorAH
import Derived.Test.YtfkmfobbgoflgaaGreatDoorProg
import Derived.Shelf.Bits.Mul64
import Derived.Ground.NamesProg
set_option linter.unusedSimpArgs false
set_option linter.unusedVariables false
set_option maxRecDepth 100000
namespace Go.Proofs.Dev
@[simp] def md2 (f : Nat) : List Bool := if f = 207 then [false, true, true] else if f = 208 then [true, true, true, true] else md0 f
def Gg (W T : Int) (ds : List Int) (ps : List (List Int)) : List (List Int) := ps.filter fun t => J9 (BZ W T ds t)
theorem dZ (W T : Int) (ds t : List Int) : Gg W T ds [t] = dY W T ds t := by
 unfold Gg dY
 cases h : J9 (BZ W T ds t) <;> simp [h]
theorem Rt (W T : Int) (ds : List Int) (a b : List (List Int)) : Gg W T ds (a ++ b) = Gg W T ds a ++ Gg W T ds b := by simp [Gg]
theorem Ru (W T : Int) (ds : List Int) (a : List (List Int)) : (Gg W T ds a).length ≤ a.length := List.length_filter_le _ _
theorem O3 (W T : Int) (cs : List Bool) (ds t : List Int) (acc : List (List Int)) (hok : okB W T cs ds t = true) (ha : acc.length < 2 ^ 38) :
  SoundAt Tryz.prog Ev [.os 1 (AC t), .op [.v (.int .i64 W), .v (.int .i64 T), .sl 0 1 (AD cs)], .op [.sl 0 1 (AC ds)], .op [.os 1 (oss acc)]]
   (.v (.bool true)) [.bot, .op [.v (.int .i64 W), .v (.int .i64 T), .sl 0 1 (AD cs)], .op [.sl 0 1 (AC ds)], .op [.os 1 (oss (acc ++ dY W T ds t))]] := by
 refine AJ (md := md0) (ms := [false, true, true, true]) KF (by simp) ?_
 simp [Ew]
 refine AA (Df W T cs ds t hok) ?_
 cases ho : J9 (BZ W T ds t) with
 | false =>
   simp [dY, ho]
 | true =>
   simp [dY, ho]
   refine ⟨by omega, ?_⟩
   rw [Nq, Wy]
   exact List.take_of_length_le (by simp)
@[simp] theorem nP (xs : List Int) (i : Nat) (h : i < (AC xs).length) : (AC xs)[i] = .v (.int .i64 (ati xs i)) := by
  have h2 : i < xs.length := by simpa using h
  simp [AC, ati, h2]
theorem pI : cQ Tryz.prog 208 = true := by kernel_rfl
def XB (W T : Int) (cs : List Bool) (ds ls : List Int) (acc : List (List Int)) : AM :=
 [some (.arr 1 (AC ls)), some (.box [.v (.int .i64 W), .v (.int .i64 T), .sl 0 1 (AD cs)]), some (.box [.sl 0 1 (AC ds)]), some (.box [.ls 1 5 0 acc.length]),
  some (.box [.v (.int .i64 W), .v (.int .i64 T), .sl 1 1 (AD cs)]), some (.arr 1 (oss acc))]
def M7 (W T : Int) (cs : List Bool) (ds ls : List Int) (acc : List (List Int)) : AM :=
 [some (.arr 1 (AC ls)), some (.box [.v (.int .i64 W), .v (.int .i64 T), .sl 0 1 (AD cs)]), some (.box [.sl 0 1 (AC ds)]), some (.box [.ls 1 6 0 acc.length]),
  some (.box [.v (.int .i64 W), .v (.int .i64 T), .sl 1 1 (AD cs)]), some (.arr 1 [.v (.int .i64 1), .v (.int .i64 2)]), some (.arr 1 (oss acc))]
theorem da (W T : Int) (cs : List Bool) (ds : List Int) (hr : A3 W T cs = true) (hd : DV cs ds = true) (n : Nat)
  (ih : ∀ m, n = m + 1 → ∀ (ls : List Int) (acc : List (List Int)), B9 ls ≤ m → AU W T cs ls = true → acc.length + 2 ^ m ≤ 2 ^ 37 →
   SoundAt Tryz.prog Di [.agg [.v (.int .i64 W), .v (.int .i64 T), .sl 1 1 (AD cs)], .os 1 (AC ls), .fn 208 [.op [.v (.int .i64 W), .v (.int .i64 T), .sl 0 1 (AD cs)], .op [.sl 0 1 (AC ds)], .op [.os 1 (oss acc)]]]
    (.v (.bool true)) [.bot, .bot, .fn 208 [.op [.v (.int .i64 W), .v (.int .i64 T), .sl 0 1 (AD cs)], .op [.sl 0 1 (AC ds)], .op [.os 1 (oss (acc ++ Gg W T ds (allT W T cs m ls)))]]])
  (ls : List Int) (acc : List (List Int)) (hz : B9 ls ≤ n) (hy : AU W T cs ls = true) (ha : acc.length + 2 ^ n ≤ 2 ^ 37) :
  SoundAt Tryz.prog Di [.agg [.v (.int .i64 W), .v (.int .i64 T), .sl 1 1 (AD cs)], .os 1 (AC ls), .fn 208 [.op [.v (.int .i64 W), .v (.int .i64 T), .sl 0 1 (AD cs)], .op [.sl 0 1 (AC ds)], .op [.os 1 (oss acc)]]]
   (.v (.bool true)) [.bot, .bot, .fn 208 [.op [.v (.int .i64 W), .v (.int .i64 T), .sl 0 1 (AD cs)], .op [.sl 0 1 (AC ds)], .op [.os 1 (oss (acc ++ Gg W T ds (allT W T cs n ls)))]]] := by
 have h36 := AZ hr
 have hl : ls.length = cs.length := by simp only [AU, Bool.and_eq_true, decide_eq_true_eq] at hy; exact hy.1
 have hok : okB W T cs ds ls = true := by simp only [okB, hr, hd, hy, Bool.and_self]
 have hp : 0 < 2 ^ n := Nat.pow_pos (by omega)
 have hac : acc.length < 2 ^ 38 := Nat.lt_of_le_of_lt (Nat.le_trans (Nat.le_add_right _ _) ha) (by decide)
 refine AJ (md := md2) (ms := [false, false, true]) QM (by simp) ?_
 simp [Jf]
 refine AH (fun m E H => ∃ i : Nat, m = ls.length - i ∧ i ≤ ls.length ∧ (∀ j : Nat, j < i → B5 cs ls j = false) ∧ H = XB W T cs ds ls acc ∧
  E = [(1, .ls 1 0 0 ls.length), (2, .fn 208 [.lp 0 1 0 0, .lp 0 2 0 0, .lp 0 3 0 0]), (3, .lp 0 4 0 0), (7, .v (.int .i64 i)), (63, .fn 208 [.lp 0 1 0 0, .lp 0 2 0 0, .lp 0 3 0 0])]) ls.length ⟨0, by simp [XB]⟩ ?_
 rintro J hJ m E H ⟨i, rfl, hi, hb, rfl, rfl⟩
 by_cases h : i < ls.length
 case neg =>
  have hi' : i = ls.length := by omega
  subst hi'
  have he : E8 cs ls = -1 := C6 hb
  simp [Bc, XB]
  refine ⟨pI, AA (O3 W T cs ds ls acc hok hac) ?_⟩
  simp [T4 n (show E8 cs ls < 0 by omega), dZ]
  exact List.take_of_length_le (by simp)
 have next : B5 cs ls i = false → Cx J (ls.length - i) [(1, .ls 1 0 0 ls.length), (2, .fn 208 [.lp 0 1 0 0, .lp 0 2 0 0, .lp 0 3 0 0]), (3, .lp 0 4 0 0), (7, .v (.int .i64 (i + 1))), (63, .fn 208 [.lp 0 1 0 0, .lp 0 2 0 0, .lp 0 3 0 0])]
   (XB W T cs ds ls acc) := by
  intro hx
  refine ⟨_, by omega, hJ _ _ _ ⟨i + 1, rfl, h, ?_, rfl, rfl⟩⟩
  intro j hj
  rcases Nat.lt_or_ge j i with h1 | h1
  ·exact hb j h1
  ·have : j = i := by omega
   subst this; exact hx
 have h2 : i < cs.length := by omega
 cases hc : atb cs i with
 | false =>
   have nx := next (by simp [B5, hc])
   simp [XB] at nx
   simp [Bc, XB, h, h2, hc]
   exact ⟨by omega, nx⟩
 | true =>
 by_cases z : ati ls i = 0
 case neg =>
  have nx := next (by simp [B5, z])
  simp [XB] at nx
  simp [Bc, XB, h, h2, hc, z]
  exact ⟨by omega, nx⟩
 have he : E8 cs ls = i := DT h (by simp [B5, hc, z]) hb
 have hzp := M4 h z
 obtain ⟨n', rfl⟩ : ∃ n', n = n' + 1 := ⟨n - 1, by omega⟩
 have hk0 : ¬ (i : Int) < 0 := by omega
 have hall : allT W T cs (n' + 1) ls = U9 W T cs n' ls i 2 := by
  rw [allT, he, if_neg hk0]
  simp [U9, RH, List.range_succ]
 rw [hall]
 have hne : ¬ ((i : Int) = ls.length) := by omega
 simp [Bc, XB, h, h2, hc, z, hne]
 have b1 := T6 W T cs n' ls i
 have hpow : 2 ^ (n' + 1) = 2 * 2 ^ n' := by rw [Nat.pow_succ]; omega
 refine AH (fun m E H => ∃ j : Nat, m = 2 - j ∧ j ≤ 2 ∧ H = M7 W T cs ds ls (acc ++ Gg W T ds (U9 W T cs n' ls i j)) ∧
  E = [(1, .ls 1 0 0 ls.length), (2, .fn 208 [.lp 0 1 0 0, .lp 0 2 0 0, .lp 0 3 0 0]), (3, .lp 0 4 0 0), (7, .v (.int .i64 i)), (38, .ls 1 5 0 2), (39, .v (.int .i64 2)), (40, .v (.int .i64 j)), (63, .fn 208 [.lp 0 1 0 0, .lp 0 2 0 0, .lp 0 3 0 0])]) 2 ⟨0, by simp [M7, U9, Gg]⟩ ?_
 rintro J2 hJ2 m2 E2 H2 ⟨j, rfl, hj, rfl, rfl⟩
 by_cases h3 : j < 2
 case neg =>
  have : j = 2 := by omega
  subst this
  simp [CS, M7]
  exact List.take_of_length_le (by simp)
 have h01 : j = 0 ∨ j = 1 := by omega
 rcases h01 with rfl | rfl
 ·have hsuc : U9 W T cs n' ls i (0 + 1) = U9 W T cs n' ls i 0 ++ RH W T cs n' ls i 1 := by simpa using T5 W T cs n' ls i 0
  have bl := b1 0
  have kl := Ru W T ds (U9 W T cs n' ls i 0)
  have hlen : (acc ++ Gg W T ds (U9 W T cs n' ls i 0)).length + 2 ^ n' ≤ 2 ^ 37 := by rw [List.length_append]; omega
  have next2 : ∀ x, RH W T cs n' ls i 1 = x → Cx J2 (2 - 0) [(1, .ls 1 0 0 ls.length), (2, .fn 208 [.lp 0 1 0 0, .lp 0 2 0 0, .lp 0 3 0 0]), (3, .lp 0 4 0 0), (7, .v (.int .i64 i)), (38, .ls 1 5 0 2), (39, .v (.int .i64 2)), (40, .v (.int .i64 1)), (63, .fn 208 [.lp 0 1 0 0, .lp 0 2 0 0, .lp 0 3 0 0])]
    (M7 W T cs ds ls ((acc ++ Gg W T ds (U9 W T cs n' ls i 0)) ++ Gg W T ds x)) := by
   rintro x rfl
   refine ⟨_, by omega, hJ2 _ _ _ ⟨0 + 1, rfl, by omega, ?_, rfl⟩⟩
   rw [hsuc, Rt, List.append_assoc]
  generalize hA : acc ++ Gg W T ds (U9 W T cs n' ls i 0) = A at *
  simp [CS, M7]
  refine AA (Dh W T cs ls i 1 hr hl) ?_
  cases hf : Ap W T cs ls i 1 with
  | false =>
    have nx := next2 [] (by simp [RH, hf])
    simp [M7, Gg] at nx
    simp
    exact nx
  | true =>
    have nx := next2 (allT W T cs n' (B4 W T ls i 1)) (by simp [RH, hf])
    have hzl : B9 (B4 W T ls i 1) < B9 ls := Fj h z (by omega) (by omega)
    have rcr := ih n' rfl (B4 W T ls i 1) A (by omega) (KW hr hy hf) hlen
    have hll := AN W T ls i 1
    simp [M7] at nx
    simp
    (repeat' first | assumption | omega | apply And.intro) <;>
    ·refine AA (Cr W T cs ls i 1 hr hl hf) ?_
     simp [hll]
     (repeat' first | assumption | omega | apply And.intro) <;>
     ·refine AA rcr ?_
      simp [hll]
      exact nx
 ·have hsuc : U9 W T cs n' ls i (1 + 1) = U9 W T cs n' ls i 1 ++ RH W T cs n' ls i 2 := by simpa using T5 W T cs n' ls i 1
  have bl := b1 1
  have kl := Ru W T ds (U9 W T cs n' ls i 1)
  have hlen : (acc ++ Gg W T ds (U9 W T cs n' ls i 1)).length + 2 ^ n' ≤ 2 ^ 37 := by rw [List.length_append]; omega
  have next2 : ∀ x, RH W T cs n' ls i 2 = x → Cx J2 (2 - 1) [(1, .ls 1 0 0 ls.length), (2, .fn 208 [.lp 0 1 0 0, .lp 0 2 0 0, .lp 0 3 0 0]), (3, .lp 0 4 0 0), (7, .v (.int .i64 i)), (38, .ls 1 5 0 2), (39, .v (.int .i64 2)), (40, .v (.int .i64 2)), (63, .fn 208 [.lp 0 1 0 0, .lp 0 2 0 0, .lp 0 3 0 0])]
    (M7 W T cs ds ls ((acc ++ Gg W T ds (U9 W T cs n' ls i 1)) ++ Gg W T ds x)) := by
   rintro x rfl
   refine ⟨_, by omega, hJ2 _ _ _ ⟨1 + 1, rfl, by omega, ?_, rfl⟩⟩
   rw [hsuc, Rt, List.append_assoc]
  generalize hA : acc ++ Gg W T ds (U9 W T cs n' ls i 1) = A at *
  simp [CS, M7]
  refine AA (Dh W T cs ls i 2 hr hl) ?_
  cases hf : Ap W T cs ls i 2 with
  | false =>
    have nx := next2 [] (by simp [RH, hf])
    simp [M7, Gg] at nx
    simp
    exact nx
  | true =>
    have nx := next2 (allT W T cs n' (B4 W T ls i 2)) (by simp [RH, hf])
    have hzl : B9 (B4 W T ls i 2) < B9 ls := Fj h z (by omega) (by omega)
    have rcr := ih n' rfl (B4 W T ls i 2) A (by omega) (KW hr hy hf) hlen
    have hll := AN W T ls i 2
    simp [M7] at nx
    simp
    (repeat' first | assumption | omega | apply And.intro) <;>
    ·refine AA (Cr W T cs ls i 2 hr hl hf) ?_
     simp [hll]
     (repeat' first | assumption | omega | apply And.intro) <;>
     ·refine AA rcr ?_
      simp [hll]
      exact nx
theorem ZJ (W T : Int) (cs : List Bool) (ds : List Int) (hr : A3 W T cs = true) (hd : DV cs ds = true) : ∀ (n : Nat) (ls : List Int) (acc : List (List Int)), B9 ls ≤ n → AU W T cs ls = true → acc.length + 2 ^ n ≤ 2 ^ 37 →
  SoundAt Tryz.prog Di [.agg [.v (.int .i64 W), .v (.int .i64 T), .sl 1 1 (AD cs)], .os 1 (AC ls), .fn 208 [.op [.v (.int .i64 W), .v (.int .i64 T), .sl 0 1 (AD cs)], .op [.sl 0 1 (AC ds)], .op [.os 1 (oss acc)]]]
   (.v (.bool true)) [.bot, .bot, .fn 208 [.op [.v (.int .i64 W), .v (.int .i64 T), .sl 0 1 (AD cs)], .op [.sl 0 1 (AC ds)], .op [.os 1 (oss (acc ++ Gg W T ds (allT W T cs n ls)))]]] := by
 intro n
 induction n with
 | zero => intro ls acc h1 h2 h3; exact da W T cs ds hr hd 0 (fun m h => by omega) ls acc h1 h2 h3
 | succ n ih =>
   intro ls acc h1 h2 h3
   refine da W T cs ds hr hd (n + 1) (fun m h => ?_) ls acc h1 h2 h3
   have : m = n := by omega
   subst this
   exact ih
@[simp] abbrev Fl : Nat := 188
def Fm : ACode := .seq (.reg [.o 2 .mv [.c (.os 1 [])]]) <| .seq (.reg [.m 3 0, .m 4 0, .n 5 4, .m 6 0, .n 7 6, .o 8 (.slice 1 false false true true) [.t 3, .t 5, .t 7], .m 2 8]) <| .ret
theorem Jg : cFn Tryz.prog Fl 9 [.t 2] Fm := ⟨Tryz.f188, _, Tryz.func188, rfl, by kernel_rfl, by kernel_rfl, by kernel_rfl, by kernel_rfl⟩
@[simp] abbrev Ie : Nat := 177
def Ig : ACode := .seq (.reg [.o 3 .box [.t 0], .o 6 .mv [.c (.os 1 [])], .o 7 .mv [.kb false]]) <| .seq (.reg [.la 9 3 3, .m 10 1, .m 11 2, .o 12 (.call 157 []) [.t 9, .t 10, .t 11], .m 8 12]) <| .seq (.seq (.reg [.m 13 8, .n 14 13, .o 15 (.bin .eql 0) [.t 14, .k 0]]) <| .cond (.t 15) ( .seq (.reg [.o 6 .mv [.c (.os 1 [])], .o 7 .mv [.kb false]]) <| .ret) ( .skip)) <| .seq (.own [(.op, .m 16 8), (.op, .o 17 (.iadr 1) [.t 16, .k 0]), (.take, .l 18 17), (.op, .m 6 18), (.op, .o 7 .mv [.kb true])]) <| .ret
theorem O4 : cFn Tryz.prog Ie 19 [.t 6, .t 7] Ig := ⟨Tryz.f177, _, Tryz.func177, rfl, by kernel_rfl, by kernel_rfl, by kernel_rfl, by kernel_rfl⟩
@[simp] abbrev Ko : Nat := 185
def Kp : ACode := .seq (.reg [.o 3 .box [.t 0], .o 6 .mv [.c (.os 1 [])], .o 7 .mv [.kb false]]) <| .seq (.seq (.reg [.la 8 3 3, .m 9 1, .m 10 2, .o 11 (.call 98 []) [.t 8, .t 9, .t 10], .o 12 (.un .not) [.t 11]]) <| .cond (.t 12) ( .seq (.reg [.o 6 .mv [.c (.os 1 [])], .o 7 .mv [.kb false]]) <| .ret) ( .skip)) <| .seq (.reg [.la 13 3 3, .m 14 1, .m 15 2, .o 16 (.call 177 []) [.t 13, .t 14, .t 15], .e 17 0 16, .e 18 1 16, .m 6 17, .m 7 18]) <| .ret
theorem RK : cFn Tryz.prog Ko 19 [.t 6, .t 7] Kp := ⟨Tryz.f185, _, Tryz.func185, rfl, by kernel_rfl, by kernel_rfl, by kernel_rfl, by kernel_rfl⟩
@[simp] abbrev QN : Nat := 133
def Ez : ACode := .seq (.seq (.reg [.m 25 11, .m 26 2, .n 27 26, .o 28 (.bin .lss 0) [.t 25, .t 27], .m 29 28, .mg 30 10 29 true, .g 31 (.bin .lss 0) [.t 30, .k 0] 29 true, .o 32 .pick [.t 29, .t 31, .kb false]]) <| .cond (.t 32) ( .skip) ( .exit 0)) <| .seq (.block 1 ( .seq (.reg [.la 35 3 3, .m 36 2, .m 37 11, .o 38 (.call 186 []) [.t 35, .t 36, .t 37]]) <| .cond (.t 38) ( .reg [.m 39 11, .m 10 39]) ( .skip))) <| .reg [.m 33 11, .o 34 (.bin .add 0) [.t 33, .k 1], .m 11 34]
def QO : ACode := .seq (.reg [.o 3 .box [.t 0], .o 6 .mv [.k 0], .o 7 .mv [.k 0]]) <| .seq (.reg [.la 13 3 3, .m 14 1, .m 15 2, .o 16 (.call 185 []) [.t 13, .t 14, .t 15], .m 12 16, .e 17 0 12, .e 18 1 12, .m 8 17, .m 9 18]) <| .seq (.seq (.reg [.m 19 9, .o 20 (.un .not) [.t 19]]) <| .cond (.t 20) ( .seq (.reg [.o 6 .mv [.k (-1)], .o 7 .mv [.k 0]]) <| .ret) ( .skip)) <| .seq (.reg [.la 21 3 3, .m 22 1, .m 23 2, .o 24 (.call 184 []) [.t 21, .t 22, .t 23, .k 1], .m 10 24]) <| .seq (.seq (.reg [.o 11 .mv [.k 0]]) <| .block 0 ( .loop [(2, 1), (8, 1)] [2, 3, 8, 10, 11] Ez)) <| .seq (.seq (.reg [.m 40 10, .o 41 (.bin .lss 0) [.t 40, .k 0]]) <| .cond (.t 41) ( .seq (.reg [.o 6 .mv [.k (-1)], .o 7 .mv [.k 0]]) <| .ret) ( .skip)) <| .seq (.draw ( .take (.m 42 10) <| .take (.m 43 8) <| .take (.m 44 10) <| .take (.o 45 (.iadr 1) [.t 43, .t 44]) <| .take (.m 6 42) <| .al (.l 46 45) ( .take (.m 7 46) <| .done))) <| .ret
theorem XC : cFn Tryz.prog QN 47 [.t 6, .t 7] QO := ⟨Tryz.f133, _, Tryz.func133, rfl, by kernel_rfl, by kernel_rfl, by kernel_rfl, by kernel_rfl⟩
theorem YD : ∀ xs : List Int, noVL (AC xs) = true
 | [] => by simp [noVL]
 | x :: xs => by show (noV (.v (.int .i64 x)) && noVL (AC xs)) = true; rw [YD xs]; simp [noV]
theorem aD : ∀ ps : List (List Int), noVL (oss ps) = true
 | [] => by simp [noVL]
 | p :: ps => by show (noV (.os 1 (AC p)) && noVL (oss ps)) = true; rw [aD ps]; simp [noV, YD]
theorem QP (ps : List (List Int)) : SoundAt Tryz.prog Fl [.os 1 (oss ps)] (.os 1 (oss ps)) [.bot] := by
 refine AJ (md := md0) (ms := [false]) Jg (by simp) ?_
 simp [Fm]
theorem Kq (W T : Int) (cs : List Bool) (ds ls : List Int) (hok : okB W T cs ds ls = true) :
  SoundAt Tryz.prog DB [.agg [.v (.int .i64 W), .v (.int .i64 T), .sl 0 1 (AD cs)], .sl 0 1 (AC ds), .sl 0 1 (AC ls)] (.os 1 (oss (Gg W T ds (allT W T cs cs.length ls)))) [.bot, .bot, .bot] := by
 refine AJ (md := md2) (ms := [false, false, false]) LP (by simp) ?_
 have hok' := hok
 simp only [okB, Bool.and_eq_true] at hok'
 obtain ⟨hr, hd, hy⟩ := hok'
 have h36 := AZ hr
 have hl := Aj hy
 have hz : B9 ls ≤ cs.length := by have := LJ ls; omega
 have hpow : 2 ^ cs.length ≤ 2 ^ 36 := Nat.pow_le_pow_right (by omega) h36
 have each := ZJ W T cs ds hr hd cs.length ls [] hz hy (by simp only [List.length_nil, Nat.zero_add]; exact Nat.le_trans hpow (by decide))
 rw [kI, List.nil_append] at each
 simp [Fk]
 (repeat' first | assumption | omega | apply And.intro) <;>
 ·refine AA (Ak ls (by omega)) ?_
  simp
  (repeat' first | assumption | omega | apply And.intro) <;>
  ·refine AA each ?_
   simp [Ee]
   refine AA (QP (Gg W T ds (allT W T cs cs.length ls))) ?_
   simp
theorem LQ (W T : Int) (cs : List Bool) (ds ls : List Int) (hok : okB W T cs ds ls = true) :
  SoundAt Tryz.prog DB [.agg [.v (.int .i64 W), .v (.int .i64 T), .sl 1 1 (AD cs)], .sl 1 1 (AC ds), .sl 1 1 (AC ls)] (.os 1 (oss (Gg W T ds (allT W T cs cs.length ls)))) [.bot, .bot, .bot] := by
 refine SoundAt.lift (n := 3) (fun C S us hr => noOL_ok _ S us rfl hr) (by simp [noV, aD]) ?_
 have h := Kq W T cs ds ls hok
 simpa [vwL, vw] using h
def Dj (W T : Int) (cs : List Bool) (ds ls : List Int) : Option (List Int) := if Ah W T cs ds ls then (RI W T cs ds).find? (Km ls) else none
def db : Option (List Int) → AV
 | some x => .tup [.os 1 (AC x), .v (.bool true)]
 | none => .tup [.os 1 [], .v (.bool false)]
theorem gZ {W T : Int} {cs : List Bool} {ds p : List Int} (h : p ∈ RI W T cs ds) : p.length = cs.length := by
 unfold RI at h
 split at h
 ·exact dR (List.mem_filter.1 h).1
 ·cases h
theorem Ih (W T : Int) (cs : List Bool) (ds ls : List Int) (hok : okB W T cs ds ls = true) :
  SoundAt Tryz.prog Ie [.agg [.v (.int .i64 W), .v (.int .i64 T), .sl 1 1 (AD cs)], .sl 1 1 (AC ds), .sl 1 1 (AC ls)] (db ((RI W T cs ds).find? (Km ls))) [.bot, .bot, .bot] := by
 refine AJ (md := md0) (ms := [false, false, false]) O4 (by simp) ?_
 simp [Ig]
 refine AA (LQ W T cs ds ls hok) ?_
 have e : Gg W T ds (allT W T cs cs.length ls) = (RI W T cs ds).filter (Km ls) := gU hok
 rw [← List.head?_filter, ← e]
 cases hp : Gg W T ds (allT W T cs cs.length ls) with
 | nil => simp [db]
 | cons p ps =>
   have h0 : ¬ ((ps.length : Int) + 1 = 0) := by omega
   simp [db, h0]
   refine Xq rfl rfl rfl ?_
   intro u
   simp [PR]
theorem RM (W T : Int) (cs : List Bool) (ds ls : List Int) (hb : cs.length < 2 ^ 40) (hd : ds.length < 2 ^ 40) (hl : ls.length < 2 ^ 40) :
  SoundAt Tryz.prog Ko [.agg [.v (.int .i64 W), .v (.int .i64 T), .sl 1 1 (AD cs)], .sl 1 1 (AC ds), .sl 1 1 (AC ls)] (db (Dj W T cs ds ls)) [.bot, .bot, .bot] := by
 refine AJ (md := md0) (ms := [false, false, false]) RK (by simp) ?_
 simp [Kp]
 refine AA (Hy W T cs ds ls hb hd hl) ?_
 cases hf : Ah W T cs ds ls with
 | false => simp [Dj, hf, db]
 | true =>
 simp
 refine AA (Ih W T cs ds ls (Fb hf)) ?_
 have e : Dj W T cs ds ls = (RI W T cs ds).find? (Km ls) := by simp [Dj, hf]
 rw [e]
 cases hr : (RI W T cs ds).find? (Km ls) with
 | none => simp [db]
 | some x => simp [db]
def O5 (W T : Int) (cs : List Bool) (ds ls : List Int) : Int := if ZE W T cs ds ls < 0 then E8 cs ls else ZE W T cs ds ls
def VA (W T : Int) (cs : List Bool) (ds ls : List Int) : Int := if (Dj W T cs ds ls).isSome = true then O5 W T cs ds ls else -1
def YE (W T : Int) (cs : List Bool) (ds ls : List Int) : Int := match Dj W T cs ds ls with
 | some x => if O5 W T cs ds ls < 0 then 0 else ati x (O5 W T cs ds ls)
 | none => 0
theorem QQ {W T : Int} {cs : List Bool} {ds ls x : List Int} (h : Dj W T cs ds ls = some x) : Ah W T cs ds ls = true ∧ x.length = cs.length := by
 unfold Dj at h
 split at h
 ·rename_i hf
  exact ⟨hf, gZ (List.mem_of_find?_eq_some h)⟩
 ·cases h
theorem ZK (W T : Int) (cs : List Bool) (ds ls : List Int) : O5 W T cs ds ls = -1 ∨ ∃ k : Nat, k < ls.length ∧ O5 W T cs ds ls = k := by
 unfold O5
 split
 ·rcases EK cs ls with h | ⟨k, hk, he, _⟩
  ·exact .inl h
  ·exact .inr ⟨k, hk, he⟩
 ·rename_i h1
  rcases Fd W T cs ds ls with h | ⟨k, hk, he, _⟩
  ·omega
  ·exact .inr ⟨k, hk, he⟩
theorem XD (W T : Int) (cs : List Bool) (ds ls : List Int) (hb : cs.length < 2 ^ 40) (hd : ds.length < 2 ^ 40) (hl : ls.length < 2 ^ 40) :
  SoundAt Tryz.prog QN [.agg [.v (.int .i64 W), .v (.int .i64 T), .sl 1 1 (AD cs)], .sl 1 1 (AC ds), .sl 1 1 (AC ls)] (.tup [.v (.int .i64 (VA W T cs ds ls)), .v (.int .i64 (YE W T cs ds ls))]) [.bot, .bot, .bot] := by
 refine AJ (md := md0) (ms := [false, false, false]) XC (by simp) ?_
 simp [QO]
 refine AA (RM W T cs ds ls hb hd hl) ?_
 cases hx : Dj W T cs ds ls with
 | none => simp [db, VA, YE, hx]
 | some x =>
 obtain ⟨hf, hxl⟩ := QQ hx
 have hok := Fb hf
 obtain ⟨hr, e1, e2, _⟩ := Q9 hok
 have eh1 : VA W T cs ds ls = O5 W T cs ds ls := by simp [VA, hx]
 have eh2 : YE W T cs ds ls = if O5 W T cs ds ls < 0 then 0 else ati x (O5 W T cs ds ls) := by simp [YE, hx]
 rw [eh1, eh2]
 simp [db]
 refine AA (E5 W T cs ds ls 1 hok) ?_
 have e0 : D6 (Tq W T cs ds ls 1) ls.length = ZE W T cs ds ls := rfl
 rw [e0]
 simp
 refine AH (fun m E H => ∃ (i : Nat) (c : Int), m = ls.length - i ∧ i ≤ ls.length ∧ (c = O5 W T cs ds ls ∧ 0 ≤ c ∨ c = -1 ∧ ZE W T cs ds ls < 0 ∧ ∀ j : Nat, j < i → B5 cs ls j = false) ∧
  H = [some (.box [.v (.int .i64 W), .v (.int .i64 T), .sl 1 1 (AD cs)]), some (.arr 1 (AC x))] ∧
  E = [(2, .sl 1 1 (AC ls)), (3, .lp 0 0 0 0), (8, .ls 1 1 0 x.length), (10, .v (.int .i64 c)), (11, .v (.int .i64 i))]) ls.length ⟨0, ZE W T cs ds ls, by simp, by simp, ?_, by simp, by simp⟩ ?_
 ·rcases Fd W T cs ds ls with h | ⟨k, hk, he, _⟩
  ·right; exact ⟨h, by omega, by omega⟩
  ·left; refine ⟨by rw [O5, if_neg (by omega)], by omega⟩
 rintro J hJ m E H ⟨i, c, rfl, hi, hc, rfl, rfl⟩
 rcases hc with ⟨rfl, hc0⟩ | ⟨rfl, ho, hbr⟩
 ·
  rcases ZK W T cs ds ls with h | ⟨k, hk, he⟩
  ·omega
  rw [he]
  have hkx : k < x.length := by omega
  have hk0 : ¬ (k : Int) < 0 := by omega
  simp [Ez, hk0, hkx]
 by_cases h : i < ls.length
 case neg =>
  have hi' : i = ls.length := by omega
  subst hi'
  have he : O5 W T cs ds ls = -1 := by
   rw [O5, if_pos ho]; exact C6 hbr
  simp [Ez, he]
 have one := Jb W T cs ls i (by omega) e2
 have hii : (i : Int) < cs.length := by omega
 simp [Ez, h]
 refine AA one ?_
 cases hb2 : B5 cs ls i with
 | true =>
   have hb' : decide (0 ≤ (i : Int) ∧ (i : Int) < cs.length ∧ atb cs i = true ∧ ati ls i = 0) = true := by
    simp [B5] at hb2 ⊢; exact ⟨by omega, hb2⟩
   rw [hb']
   simp
   have he : O5 W T cs ds ls = i := by rw [O5, if_pos ho]; exact DT h hb2 hbr
   exact ⟨by omega, _, by omega, hJ _ _ _ ⟨i + 1, i, rfl, h, .inl ⟨he.symm, by omega⟩, rfl, rfl⟩⟩
 | false =>
   have hb' : decide (0 ≤ (i : Int) ∧ (i : Int) < cs.length ∧ atb cs i = true ∧ ati ls i = 0) = false := by
    simp [B5] at hb2 ⊢; intro _; exact hb2
   rw [hb']
   simp
   refine ⟨by omega, _, by omega, hJ _ _ _ ⟨i + 1, -1, rfl, h, .inr ⟨rfl, ho, ?_⟩, rfl, rfl⟩⟩
   intro j hj
   rcases Nat.lt_or_ge j i with h1 | h1
   ·exact hbr j h1
   ·have : j = i := by omega
    subst this; exact hb2
theorem aE : ∀ {l m : List Int}, l.Nodup → (∀ x ∈ l, x ∈ m) → l.length ≤ m.length
 | [], m, _, _ => by simp
 | x :: l, m, hn, hs => by
   rw [List.nodup_cons] at hn
   have hx : x ∈ m := hs x (by simp)
   have h1 := aE (l := l) (m := m.erase x) hn.2 (fun y hy => by
    rw [List.mem_erase_of_ne (by intro e; subst e; exact hn.1 hy)]
    exact hs y (by simp [hy]))
   rw [List.length_erase_of_mem hx] at h1
   have : 0 < m.length := List.length_pos_of_mem hx
   simp only [List.length_cons]; omega
theorem dc {W T : Int} {ds a b : List Int} (hl : a.length = b.length) (h : ∀ k : Nat, k < a.length → ati a k = 0 ∨ ati b k = ati a k) : List.Sublist (BZ W T ds a) (BZ W T ds b) := by
 have : ∀ n, n ≤ a.length → List.Sublist (A4 W T ds a n) (A4 W T ds b n) := by
  intro n
  induction n with
  | zero => intro _; simp [A4]
  | succ n ih =>
    intro hn
    rw [FG, FG]
    rcases h n (by omega) with h0 | h0
    ·rw [if_neg (by omega)]
     exact (ih (by omega)).append (List.nil_sublist _)
    ·rw [h0]
     exact (ih (by omega)).append (List.Sublist.refl _)
 have e := this a.length (Nat.le_refl _)
 unfold BZ
 rw [← hl]; exact e
theorem ga {a b : List Int} (h : List.Sublist a b) (hb : J9 b = true) : J9 a = true := by
 simp only [J9, decide_eq_true_eq] at hb ⊢
 exact h.nodup hb
theorem de {W T : Int} {ds a b : List Int} (hl : a.length = b.length) (h : Km a b = true) : List.Sublist (BZ W T ds a) (BZ W T ds b) :=
 dc hl fun k hk => hasB_iff.1 h k hk
theorem df {a b c : List Int} (hl : a.length = b.length) (h1 : Km a b = true) (h2 : Km b c = true) : Km a c = true := by
 rw [hasB_iff] at *
 intro k hk
 rcases h1 k hk with h | h
 ·exact .inl h
 ·rcases h2 k (by omega) with h3 | h3
  ·left; omega
  ·right; omega
def LR (W T : Int) (ls : List Int) (cell : Int) : List Int := (ls.set (AF W T cell (ati ls cell)).toNat 0).set cell.toNat 0
theorem M8 (W T : Int) (ls : List Int) (cell : Int) : (LR W T ls cell).length = ls.length := by simp [LR]
theorem XE {W T : Int} {cs : List Bool} {ls : List Int} {k : Nat} (hr : A3 W T cs = true) (hy : AU W T cs ls = true) (hk : k < ls.length) (hv : ati ls k ≠ 0) :
  ∃ t : Nat, AF W T k (ati ls k) = t ∧ t < ls.length ∧ t ≠ k ∧ ∀ j : Nat, ati (LR W T ls k) j = if j = k then 0 else if j = t then 0 else ati ls j := by
 obtain ⟨w1, w2, t1, t2, l1, _⟩ := BI hr
 have hl := Aj hy
 obtain ⟨v1, v4, g3, g4, g5, g6⟩ := Ib hy hk hv
 obtain ⟨_, _, _, b4, b5⟩ := Co (W := W) (T := T) (k := k) (way := ati ls k) w1 (by omega) (by omega) g4
 refine ⟨(AF W T k (ati ls k)).toNat, by omega, by omega, by omega, fun j => ?_⟩
 unfold LR
 rw [Mi (by simpa using hk), Mi (by omega)]
 simp
theorem dg {W T : Int} {cs : List Bool} {ls : List Int} {k : Nat} (hr : A3 W T cs = true) (hy : AU W T cs ls = true) (hk : k < ls.length) (hv : ati ls k ≠ 0) : AU W T cs (LR W T ls k) = true := by
 obtain ⟨w1, w2, t1, t2, l1, _⟩ := BI hr
 have hl := Aj hy
 obtain ⟨t, e, ht, htk, hat⟩ := XE hr hy hk hv
 obtain ⟨v1, v4, g3, g4, g5, g6⟩ := Ib hy hk hv
 have sb := Co (W := W) (T := T) (k := k) (way := ati ls k) w1 (by omega) (by omega) g4
 rw [e] at g6 sb
 simp only [AU, Bool.and_eq_true, decide_eq_true_eq, CI, M8]
 refine ⟨hl, fun j hj => ?_⟩
 simp only [ID, decide_eq_true_eq]
 rw [hat j]
 by_cases e1 : j = k
 ·rw [if_pos e1]; exact .inl rfl
 rw [if_neg e1]
 by_cases e2 : j = t
 ·rw [if_pos e2]; exact .inl rfl
 rw [if_neg e2]
 by_cases e3 : ati ls j = 0
 ·exact .inl e3
 right
 obtain ⟨u1, u4, q3, q4, q5, q6⟩ := Ib hy hj e3
 have sj := Co (W := W) (T := T) (k := j) (way := ati ls j) w1 (by omega) (by omega) q4
 obtain ⟨s, hs⟩ : ∃ s : Nat, AF W T j (ati ls j) = s := ⟨(AF W T j (ati ls j)).toNat, by omega⟩
 rw [hs] at q4 q5 q6 sj ⊢
 refine ⟨u1, u4, q3, q4, q5, ?_⟩
 rw [hat s]
 have n1 : s ≠ k := by
  intro h
  subst h
  have h2 := sj.1
  rw [← q6, e] at h2
  omega
 have n2 : s ≠ t := by
  intro h
  subst h
  have h2 := sj.1
  rw [← q6, g6, sb.1] at h2
  omega
 rw [if_neg n1, if_neg n2]; exact q6
theorem Aw {W T : Int} {cs : List Bool} {ds ls : List Int} (h : Ah W T cs ds ls = true) : A3 W T cs = true ∧ DV cs ds = true ∧ AU W T cs ls = true ∧ J9 (BZ W T ds ls) = true := by
 simp only [Ah, okB, Bool.and_eq_true] at h
 exact ⟨h.1.1, h.1.2.1, h.1.2.2, h.2⟩
theorem kT {W T : Int} {cs : List Bool} {ds ls : List Int} (h1 : A3 W T cs = true) (h2 : DV cs ds = true) (h3 : AU W T cs ls = true) (h4 : J9 (BZ W T ds ls) = true) : Ah W T cs ds ls = true := by
 simp only [Ah, okB, Bool.and_eq_true]
 exact ⟨⟨h1, h2, h3⟩, h4⟩
theorem bP (W T : Int) (ds ls : List Int) : (BZ W T ds ls).length = Kl ls := by
 have : ∀ n, n ≤ ls.length → (A4 W T ds ls n).length = Kl (ls.take n) := by
  intro n
  induction n with
  | zero => intro _; simp [A4, Kl]
  | succ n ih =>
    intro hn
    rw [FG, List.length_append, ih (by omega), Ty (by omega)]
    congr 1
    by_cases h : ati ls n = 1 ∨ ati ls n = 2
    ·rw [if_pos h]
     have : MT (ati ls n) = true := by simpa [MT] using h
     simp [this]
    ·rw [if_neg h]
     have : MT (ati ls n) = false := by simpa [MT] using h
     simp [this]
 have e := this ls.length (Nat.le_refl _)
 rw [List.take_length] at e
 exact e
theorem ge {W T : Int} {cs : List Bool} {ls : List Int} {k : Nat} {way : Int} (hr : A3 W T cs = true) (hl : ls.length = cs.length) (hf : Ap W T cs ls k way = true) : Km ls (B4 W T ls k way) = true := by
 obtain ⟨t, e, t1, t2, t3, _, _, _, _, z1, z2, hat⟩ := EL hr hl hf
 rw [hasB_iff]
 intro j hj
 rw [hat j]
 by_cases e1 : j = t
 ·subst e1; exact .inl z2
 by_cases e2 : j = k
 ·subst e2; exact .inl z1
 rw [if_neg e1, if_neg e2]; exact .inr rfl
theorem aF {ls : List Int} {i : Nat} {v : Int} (h : i < ls.length) (hz : ati ls i = 0) : Kl (ls.set i v) = Kl ls + if MT v then 1 else 0 := by
 have he : ls[i] = 0 := by simpa [ati, h] using hz
 unfold Kl
 rw [List.countP_set h, he]
 simp [MT]
theorem gf {W T : Int} {cs : List Bool} {ls : List Int} {k : Nat} {way : Int} (hr : A3 W T cs = true) (hl : ls.length = cs.length) (hf : Ap W T cs ls k way = true) : Kl (B4 W T ls k way) = Kl ls + 1 := by
 obtain ⟨t, e, t1, t2, t3, v1, v4, _, _, z1, z2, hat⟩ := EL hr hl hf
 unfold B4
 have h1 : ati (ls.set k way) t = 0 := by rw [Mi t2, if_neg t3]; exact z2
 rw [e]
 simp only [Int.toNat_natCast]
 rw [aF (by simpa using t1) h1, aF t2 z1]
 have : way = 1 ∨ way = 2 ∨ way = 3 ∨ way = 4 := by omega
 rcases this with rfl | rfl | rfl | rfl <;> simp [MT, Ca]
theorem YF (W T : Int) (cs : List Bool) (ds ls : List Int) (cell : Int) : KB W T cs ds ls cell = [1, 2, 3, 4].filter (QC W T cs ds ls cell) := by
 simp only [KB, G4, List.range_succ, List.range_zero, List.nil_append, List.flatMap_append, List.flatMap_cons, List.flatMap_nil, List.append_nil, List.filter_cons, List.filter_nil]
 cases h1 : QC W T cs ds ls cell 1 <;> cases h2 : QC W T cs ds ls cell 2 <;> cases h3 : QC W T cs ds ls cell 3 <;> cases h4 : QC W T cs ds ls cell 4 <;> simp [h1, h2, h3, h4]
theorem opts_mem {W T : Int} {cs : List Bool} {ds ls : List Int} {cell x : Int} : x ∈ KB W T cs ds ls cell ↔ QC W T cs ds ls cell x = true ∧ 1 ≤ x ∧ x ≤ 4 := by
 rw [YF, List.mem_filter]
 simp only [List.mem_cons, List.not_mem_nil, or_false]
 constructor
 ·rintro ⟨h1, h2⟩; exact ⟨h2, by omega, by omega⟩
 ·rintro ⟨h1, h2, h3⟩; exact ⟨by omega, h1⟩
theorem YG {W T : Int} {cs : List Bool} {ds p : List Int} (h : Mp W T cs ds p = true) : Ah W T cs ds p = true ∧ LH cs p = true := by
 simpa only [Mp, Bool.and_eq_true] using h
theorem kU {cs : List Bool} {p : List Int} (h : LH cs p = true) {k : Nat} (hk : k < cs.length) (hc : atb cs k = true) : ati p k ≠ 0 := by
 rw [LH, CI] at h
 have := h k hk
 simpa [IP, hc] using this
theorem bR {W T : Int} {cs : List Bool} {ds ls p : List Int} {k : Nat} (hy : AU W T cs ls = true) (hp : Mp W T cs ds p = true) (hs : Km ls p = true) (hk : k < cs.length) (hc : atb cs k = true) (hz : ati ls k = 0) :
  QC W T cs ds ls k (ati p k) = true ∧ 1 ≤ ati p k ∧ ati p k ≤ 4 ∧ Km (B4 W T ls k (ati p k)) p = true := by
 obtain ⟨hf, hfull⟩ := YG hp
 obtain ⟨hr, hd, hyp, ho⟩ := Aw hf
 have hl := Aj hy
 have hlp := Aj hyp
 obtain ⟨w1, w2, t1, t2, l1, _⟩ := BI hr
 have hv := kU hfull hk hc
 obtain ⟨v1, v4, g3, g4, g5, g6⟩ := Ib hyp (k := k) (by omega) hv
 obtain ⟨v, hvv⟩ : ∃ v, ati p k = v := ⟨_, rfl⟩
 rw [hvv] at v1 v4 g4 g5 g6 hv ⊢
 have sb := Co (W := W) (T := T) (k := k) (way := v) w1 (by omega) (by omega) g4
 obtain ⟨t, ht⟩ : ∃ t : Nat, AF W T k v = t := ⟨(AF W T k v).toNat, by omega⟩
 have hzt : ati ls t = 0 := by
  rcases hasB_iff.1 hs t (by omega) with h | h
  ·exact h
  ·exfalso
   rw [ht] at g6
   have := T7 hr hy (k := k) (t := t) (way := v) (by omega) ht (by rw [← h]; exact g6)
   omega
 have hfree : Ap W T cs ls k v = true := by
  simp only [Ap, decide_eq_true_eq]
  exact ⟨by omega, by omega, g4, hc, g5, hz, by rw [ht]; exact hzt⟩
 have hh := dU hr hl hfree hs hvv g6
 refine ⟨?_, v1, v4, hh⟩
 simp only [QC, Bool.and_eq_true]
 exact ⟨hfree, ga (de (by rw [AN]; omega) hh) ho⟩
theorem bS {W T : Int} {cs : List Bool} {ds ls p : List Int} (hy : AU W T cs ls = true) (hp : Mp W T cs ds p = true) (hs : Km ls p = true) : Km (BJ W T cs ds ls) p = true := by
 have hl := Aj hy
 rcases Fd W T cs ds ls with h | ⟨k, hk, he, hc, hz, hol, hob, hw⟩
 ·rw [BJ, if_pos (by omega)]; exact hs
 ·rw [BJ, he, if_neg (by omega)]
  obtain ⟨o1, o2, o3, o4⟩ := bR hy hp hs (by omega) hc hz
  have hm : ati p k ∈ KB W T cs ds ls k := opts_mem.2 ⟨o1, o2, o3⟩
  rw [hol, List.mem_singleton] at hm
  rw [← hm]; exact o4
theorem bT {W T : Int} {cs : List Bool} {ds ls : List Int} (hr : A3 W T cs = true) (hl : ls.length = cs.length) : Km ls (BJ W T cs ds ls) = true := by
 rcases Fd W T cs ds ls with h | ⟨k, hk, he, hc, hz, hol, hob, hw⟩
 ·rw [BJ, if_pos (by omega)]; exact Kn ls
 ·rw [BJ, he, if_neg (by omega)]
  exact ge hr hl (QD hob)
theorem ZL {W T : Int} {cs : List Bool} {ds ls : List Int} (hr : A3 W T cs = true) (hl : ls.length = cs.length) (hb : Bt W T cs ds ls = true) : Kl (BJ W T cs ds ls) = Kl ls + 1 := by
 rcases Fd W T cs ds ls with h | ⟨k, hk, he, hc, hz, hol, hob, hw⟩
 ·simp [Bt, h] at hb
 ·rw [BJ, he, if_neg (by omega)]
  exact gf hr hl (QD hob)
theorem M9 {W T : Int} {cs : List Bool} {ds : List Int} : ∀ (n : Nat) (ls : List Int), B9 ls ≤ n → Ah W T cs ds ls = true →
  Ah W T cs ds (A0 W T cs ds n ls) = true ∧ Km ls (A0 W T cs ds n ls) = true ∧ Bt W T cs ds (A0 W T cs ds n ls) = false ∧
  ∀ p, Mp W T cs ds p = true → Km ls p = true → Km (A0 W T cs ds n ls) p = true
 | 0, ls, hz, hf => by
   refine ⟨hf, Kn ls, ?_, fun p _ h => h⟩
   cases hb : Bt W T cs ds (A0 W T cs ds 0 ls) with
   | false => rfl
   | true =>
     have := Mw hb
     rw [A0] at this
     omega
 | n + 1, ls, hz, hf => by
   rw [A0]
   obtain ⟨hr, hd, hy, ho⟩ := Aw hf
   split
   ·rename_i hb
    have hz2 := Mw hb
    obtain ⟨i1, i2, i3, i4⟩ := M9 n (BJ W T cs ds ls) (by omega) (LI hf)
    exact ⟨i1, df (by rw [Hz]) (bT hr (Aj hy)) i2, i3, fun p hp hs => i4 p hp (bS hy hp hs)⟩
   ·rename_i hb
    exact ⟨hf, Kn ls, by simpa using hb, fun p _ h => h⟩
theorem OI {W T : Int} {cs : List Bool} {ds ls : List Int} (hf : Ah W T cs ds ls = true) :
  Ah W T cs ds (A9 W T cs ds ls) = true ∧ Km ls (A9 W T cs ds ls) = true ∧ Bt W T cs ds (A9 W T cs ds ls) = false ∧
  ∀ p, Mp W T cs ds p = true → Km ls p = true → Km (A9 W T cs ds ls) p = true :=
 M9 ls.length ls (LJ ls) hf
end Go.Proofs.Dev
namespace Go.Proofs
open Go.Shelf
namespace Dev
end Dev
end Go.Proofs
