/- Contracts of the functions of the program over slots and rows, each proved against the program itself; no condition beyond those that each theorem names. -/
import Derived.Test.YtakaenhgbkbegaaGreatAO
import Derived.Test.YtakaenhgbkbegaaGreatProg
import Derived.Test.YtakaenhgbkbegaaGreatAH
import Derived.Shelf.Bits.Mul64
import Derived.Ground.NamesProg
import Derived.Test.YtakaenhgbkbegaaGreatAJ
import Derived.Test.YtakaenhgbkbegaaGreatAN

set_option linter.unusedSimpArgs false
set_option linter.unusedVariables false

namespace Go.Proofs.Dev

-- 1 parameters, results [.t 5], 14 slots, modes [false]
@[simp] abbrev n_impl_Region_solutions_1 : Nat := 144

def c_impl_Region_solutions_1 : ACode := .seq (.reg [.o 5 .mv [.c (.v (.bool false))]]) <| .seq (.seq (.reg [.o 6 (.load true 3) [.t 1], .l 7 2, .m 8 0,
 .o 9 (.call 107 []) [.t 6, .t 7, .t 8]]) <| .cond (.t 9) ( .reg [.l 10 3, .m 11 0, .o 12 (.bsl 1) [.t 11], .o 13 (.app 1 24 false) [.t 10, .t 12],
 .s (.store 1) [.t 3, .t 13]]) ( .skip)) <| .seq (.reg [.o 5 .mv [.c (.v (.bool true))]]) <| .ret

theorem k_impl_Region_solutions_1 : cFn Tryz.prog n_impl_Region_solutions_1 14 [.t 5] c_impl_Region_solutions_1 := ⟨Tryz.f144, _, Tryz.func144, rfl, by kernel_rfl, by kernel_rfl, by kernel_rfl, by kernel_rfl⟩

-- 3 parameters, results [.t 6], 61 slots, modes [false, false, true]
@[simp] abbrev n_impl_Region_each : Nat := 143
def c_impl_Region_each_L0 : ACode := .seq (.seq (.reg [.m 10 7, .m 11 1, .o 12 (.len false) [.t 11], .o 13 (.bin .lss 0) [.t 10, .t 12], .m 14 13,
 .g 15 (.fadr 2) [.t 3] 14 true, .g 16 (.load false 1) [.t 15] 14 true, .mg 17 7 14 true, .g 18 (.iadr 1) [.t 16, .t 17] 14 true,
 .g 19 (.load false 1) [.t 18] 14 true, .g 20 (.un .not) [.t 19] 14 true, .mg 21 20 14 true, .mg 22 1 21 false, .mg 23 7 21 false, .g 24 (.iadr 1) [.t 22,
 .t 23] 21 false, .g 25 (.load false 1) [.t 24] 21 false, .g 26 (.bin .neq 0) [.t 25, .k 0] 21 false, .g 27 .pick [.t 21, .c (.v (.bool true)), .t 26] 14 true,
 .o 28 .pick [.t 14, .t 27, .c (.v (.bool false))]]) <| .cond (.t 28) ( .skip) ( .exit 0)) <| .block 1 ( .reg [.m 29 7, .o 30 (.bin .add 0) [.t 29, .k 1],
 .m 7 30])

def c_impl_Region_each_L1 : ACode := .seq (.reg [.o 41 (.bin .lss 0) [.t 40, .t 39]]) <| .seq (.cond (.t 41) ( .skip) ( .exit 2)) <|
 .seq (.block 3 ( .seq (.reg [.o 42 (.iadr 1) [.t 38, .t 40], .l 43 42, .m 9 43]) <| .seq (.draw ( .take (.m 45 1) <| .take (.m 46 7) <| .take (.m 47 9) <|
 .al (.o 44 (.load true 3) [.t 3]) ( .al (.o 48 (.call 171 []) [.t 44, .t 45, .t 46, .t 47]) ( .take (.m 49 48) <| .take (.mg 52 1 49 true) <|
 .take (.mg 53 7 49 true) <| .take (.mg 54 9 49 true) <| .take (.mg 56 2 49 true) <|
 .alt (.g 50 (.load true 3) [.t 3] 49 true) ( .al (.g 51 (.load true 3) [.t 3] 49 true) ( .al (.g 55 (.call 172 []) [.t 51, .t 52, .t 53,
 .t 54] 49 true) ( .al (.g 57 (.call 143 []) [.t 50, .t 55, .t 56] 49 true) ( .take (.g 58 (.un .not) [.t 57] 49 true) <| .take (.o 59 .pick [.t 49, .t 58,
 .c (.v (.bool false))]) <| .done)))) <|
 .al (.g 51 (.load true 3) [.t 3] 49 true) ( .alt (.g 50 (.load true 3) [.t 3] 49 true) ( .al (.g 55 (.call 172 []) [.t 51, .t 52, .t 53,
 .t 54] 49 true) ( .al (.g 57 (.call 143 []) [.t 50, .t 55, .t 56] 49 true) ( .take (.g 58 (.un .not) [.t 57] 49 true) <| .take (.o 59 .pick [.t 49, .t 58,
 .c (.v (.bool false))]) <| .done))) <| .al (.g 55 (.call 172 []) [.t 51, .t 52, .t 53,
 .t 54] 49 true) ( .al (.g 50 (.load true 3) [.t 3] 49 true) ( .al (.g 57 (.call 143 []) [.t 50, .t 55,
 .t 56] 49 true) ( .take (.g 58 (.un .not) [.t 57] 49 true) <| .take (.o 59 .pick [.t 49, .t 58, .c (.v (.bool false))]) <| .done)))))))) <|
 .cond (.t 59) ( .seq (.reg [.o 6 .mv [.c (.v (.bool false))]]) <| .ret) ( .skip))) <| .reg [.o 60 (.bin .add 0) [.t 40, .k 1], .m 40 60]

def c_impl_Region_each : ACode := .seq (.reg [.o 3 .box [.t 0], .o 6 .mv [.c (.v (.bool false))]]) <| .seq (.reg [.o 7 .mv [.k 0]]) <|
 .seq (.block 0 ( .loop [(1, 1)] [1, 2, 3, 7, 63] c_impl_Region_each_L0)) <| .seq (.seq (.reg [.m 31 7, .m 32 1, .o 33 (.len false) [.t 32],
 .o 34 (.bin .eql 0) [.t 31, .t 33]]) <| .cond (.t 34) ( .seq (.reg [.m 35 2, .m 36 1, .o 37 (.callv []) [.t 35, .t 36], .m 6 37]) <| .ret) ( .skip)) <|
 .seq (.seq (.reg [.o 38 (.bsl 1) [.k 1, .k 2], .o 39 (.len false) [.t 38], .o 40 .mv [.k 0]]) <| .block 2 ( .loop [(1, 1), (38, 1)] [1, 2, 3, 7, 38, 39, 40,
 63] c_impl_Region_each_L1)) <| .seq (.reg [.o 6 .mv [.c (.v (.bool true))]]) <| .ret

theorem k_impl_Region_each : cFn Tryz.prog n_impl_Region_each 61 [.t 6] c_impl_Region_each := ⟨Tryz.f143, _, Tryz.func143, rfl, by kernel_rfl, by kernel_rfl, by kernel_rfl, by kernel_rfl⟩

-- 3 parameters, results [.t 6], 15 slots, modes [false, false, false]
@[simp] abbrev n_impl_Region_solutions : Nat := 100
def c_impl_Region_solutions_T0 : ACode := .seq (.reg [.l 13 7, .o 14 (.call 145 []) [.t 13], .m 6 14]) <| .ret

def c_impl_Region_solutions : ACode := .seq (.reg [.o 3 .box [.t 0], .o 4 .box [.t 1], .o 6 .mv [.c (.os 1 [])]]) <|
 .seq (.reg [.o 7 (.alloc [.os 1 []]) []]) <| .seq (.draw ( .take (.m 9 2) <| .take (.o 11 (.mkfn 144) [.t 3, .t 4, .t 7]) <|
 .alt (.o 8 (.load true 3) [.t 3]) ( .al (.o 10 (.call 58 []) [.t 9]) ( .al (.o 12 (.call 143 []) [.t 8, .t 10, .t 11]) ( .done))) <|
 .al (.o 10 (.call 58 []) [.t 9]) ( .al (.o 8 (.load true 3) [.t 3]) ( .al (.o 12 (.call 143 []) [.t 8, .t 10, .t 11]) ( .done))))) <|
 .gc [] [7] c_impl_Region_solutions_T0

theorem k_impl_Region_solutions : cFn Tryz.prog n_impl_Region_solutions 15 [.t 6] c_impl_Region_solutions := ⟨Tryz.f100, _, Tryz.func100, rfl, by kernel_rfl, by kernel_rfl, by kernel_rfl, by kernel_rfl⟩

-- 2 parameters, results [.t 4], 15 slots, modes [false, false]
@[simp] abbrev n_impl_SolutionsAll : Nat := 35

def c_impl_SolutionsAll : ACode := .seq (.reg [.o 2 .box [.t 0], .o 4 .mv [.c (.os 1 [])]]) <| .seq (.seq (.reg [.o 5 (.load true 3) [.t 2], .m 6 1,
 .o 7 (.call 56 []) [.t 5, .t 6], .o 8 (.un .not) [.t 7]]) <| .cond (.t 8) ( .seq (.reg [.o 4 .mv [.c (.os 1 [])]]) <| .ret) ( .skip)) <|
 .seq (.draw ( .take (.m 10 1) <| .take (.m 11 1) <| .take (.o 12 (.len false) [.t 11]) <|
 .alt (.o 9 (.load true 3) [.t 2]) ( .al (.o 13 (.mksl 1 8 (.v (.int .i64 (0)))) [.t 12, .t 12]) ( .al (.o 14 (.call 100 []) [.t 9, .t 10,
 .t 13]) ( .take (.m 4 14) <| .done))) <| .al (.o 13 (.mksl 1 8 (.v (.int .i64 (0)))) [.t 12,
 .t 12]) ( .al (.o 9 (.load true 3) [.t 2]) ( .al (.o 14 (.call 100 []) [.t 9, .t 10, .t 13]) ( .take (.m 4 14) <| .done))))) <| .ret

theorem k_impl_SolutionsAll : cFn Tryz.prog n_impl_SolutionsAll 15 [.t 4] c_impl_SolutionsAll := ⟨Tryz.f35, _, Tryz.func35, rfl, by kernel_rfl, by kernel_rfl, by kernel_rfl, by kernel_rfl⟩

end Go.Proofs.Dev

namespace Go.Proofs.Dev
set_option linter.unusedSimpArgs false
set_option maxRecDepth 100000

def keepL (W T : Int) (ds t : List Int) : List (List Int) := if onceB (pairsI W T ds t) then [t] else []

end Go.Proofs.Dev

namespace Go.Proofs.Dev
set_option linter.unusedSimpArgs false
set_option maxRecDepth 100000

/-- Who takes ownership: each (140) of the list and of the closure, the closure (141) of all. -/
@[simp] def md2 (f : Nat) : List Bool := if f = 143 then [false, true, true] else if f = 144 then [true, true, true, true] else md0 f

/-- Those of some lists whose pairs are fair. -/
def keepT (W T : Int) (ds : List Int) (ps : List (List Int)) : List (List Int) := ps.filter fun t => onceB (pairsI W T ds t)
theorem keepT_one (W T : Int) (ds t : List Int) : keepT W T ds [t] = keepL W T ds t := by
  unfold keepT keepL
  cases h : onceB (pairsI W T ds t) <;> simp [h]
theorem keepT_append (W T : Int) (ds : List Int) (a b : List (List Int)) : keepT W T ds (a ++ b) = keepT W T ds a ++ keepT W T ds b := by simp [keepT]
theorem keepT_length (W T : Int) (ds : List Int) (a : List (List Int)) : (keepT W T ds a).length ≤ a.length := List.length_filter_le _ _

theorem s_impl_solutions_1F (W T : Int) (cs : List Bool) (ds t : List Int) (acc : List (List Int)) (hok : okB W T cs ds t = true) (ha : acc.length < 2 ^ 38) :
    SoundAt Tryz.prog n_impl_Region_solutions_1 [.os 1 (ints t), .op [.v (.int .i64 W), .v (.int .i64 T), .sl 0 1 (bools cs)], .op [.sl 0 1 (ints ds)], .op [.os 1 (oss acc)]]
      (.v (.bool true)) [.bot, .op [.v (.int .i64 W), .v (.int .i64 T), .sl 0 1 (bools cs)], .op [.sl 0 1 (ints ds)], .op [.os 1 (oss (acc ++ keepL W T ds t))]] := by
  refine fn_ok (md := md0) (ms := [false, true, true, true]) k_impl_Region_solutions_1 (by simp) ?_
  simp [c_impl_Region_solutions_1]
  refine call_on (s_impl_Region_fair W T cs ds t hok) ?_
  cases ho : onceB (pairsI W T ds t) with
  | false =>
    simp [keepL, ho]
  | true =>
    simp [keepL, ho]
    refine ⟨by omega, ?_⟩
    rw [oss_append, oss_one]
    exact List.take_of_length_le (by simp)

@[simp] theorem ints_getA (xs : List Int) (i : Nat) (h : i < (ints xs).length) : (ints xs)[i] = .v (.int .i64 (ati xs i)) := by
  have h2 : i < xs.length := by simpa using h
  simp [ints, ati, h2]

theorem ok141 : okFn Tryz.prog 144 = true := by kernel_rfl

/-- The rows and slots of each: what the closure holds, where the rows are numbered so. -/
def eachH (W T : Int) (cs : List Bool) (ds ls : List Int) (acc : List (List Int)) : Heap :=
  [some (.arr 1 (ints ls)), some (.box [.v (.int .i64 W), .v (.int .i64 T), .sl 0 1 (bools cs)]), some (.box [.sl 0 1 (ints ds)]), some (.box [.ls 1 5 0 acc.length]),
    some (.box [.v (.int .i64 W), .v (.int .i64 T), .sl 1 1 (bools cs)]), some (.arr 1 (oss acc))]
def eachH2 (W T : Int) (cs : List Bool) (ds ls : List Int) (acc : List (List Int)) : Heap :=
  [some (.arr 1 (ints ls)), some (.box [.v (.int .i64 W), .v (.int .i64 T), .sl 0 1 (bools cs)]), some (.box [.sl 0 1 (ints ds)]), some (.box [.ls 1 6 0 acc.length]),
    some (.box [.v (.int .i64 W), .v (.int .i64 T), .sl 1 1 (bools cs)]), some (.arr 1 [.v (.int .i64 1), .v (.int .i64 2)]), some (.arr 1 (oss acc))]

theorem each_of (W T : Int) (cs : List Bool) (ds : List Int) (hr : regB W T cs = true) (hd : digsB cs ds = true) (n : Nat)
    (ih : ∀ m, n = m + 1 → ∀ (ls : List Int) (acc : List (List Int)), zeros ls ≤ m → laysB W T cs ls = true → acc.length + 2 ^ m ≤ 2 ^ 37 →
      SoundAt Tryz.prog n_impl_Region_each [.agg [.v (.int .i64 W), .v (.int .i64 T), .sl 1 1 (bools cs)], .os 1 (ints ls), .fn 144 [.op [.v (.int .i64 W), .v (.int .i64 T), .sl 0 1 (bools cs)], .op [.sl 0 1 (ints ds)], .op [.os 1 (oss acc)]]]
        (.v (.bool true)) [.bot, .bot, .fn 144 [.op [.v (.int .i64 W), .v (.int .i64 T), .sl 0 1 (bools cs)], .op [.sl 0 1 (ints ds)], .op [.os 1 (oss (acc ++ keepT W T ds (allT W T cs m ls)))]]])
    (ls : List Int) (acc : List (List Int)) (hz : zeros ls ≤ n) (hy : laysB W T cs ls = true) (ha : acc.length + 2 ^ n ≤ 2 ^ 37) :
    SoundAt Tryz.prog n_impl_Region_each [.agg [.v (.int .i64 W), .v (.int .i64 T), .sl 1 1 (bools cs)], .os 1 (ints ls), .fn 144 [.op [.v (.int .i64 W), .v (.int .i64 T), .sl 0 1 (bools cs)], .op [.sl 0 1 (ints ds)], .op [.os 1 (oss acc)]]]
      (.v (.bool true)) [.bot, .bot, .fn 144 [.op [.v (.int .i64 W), .v (.int .i64 T), .sl 0 1 (bools cs)], .op [.sl 0 1 (ints ds)], .op [.os 1 (oss (acc ++ keepT W T ds (allT W T cs n ls)))]]] := by
  have h36 := regB_len hr
  have hl : ls.length = cs.length := by simp only [laysB, Bool.and_eq_true, decide_eq_true_eq] at hy; exact hy.1
  have hok : okB W T cs ds ls = true := by simp only [okB, hr, hd, hy, Bool.and_self]
  have hp : 0 < 2 ^ n := Nat.pow_pos (by omega)
  have hac : acc.length < 2 ^ 38 := Nat.lt_of_le_of_lt (Nat.le_trans (Nat.le_add_right _ _) ha) (by decide)
  refine fn_ok (md := md2) (ms := [false, false, true]) k_impl_Region_each (by simp) ?_
  simp [c_impl_Region_each]
  refine loop_by (fun m E H => ∃ i : Nat, m = ls.length - i ∧ i ≤ ls.length ∧ (∀ j : Nat, j < i → bareB cs ls j = false) ∧ H = eachH W T cs ds ls acc ∧
    E = [(1, .ls 1 0 0 ls.length), (2, .fn 144 [.lp 0 1 0 0, .lp 0 2 0 0, .lp 0 3 0 0]), (3, .lp 0 4 0 0), (7, .v (.int .i64 i)), (63, .fn 144 [.lp 0 1 0 0, .lp 0 2 0 0, .lp 0 3 0 0])]) ls.length ⟨0, by simp [eachH]⟩ ?_
  rintro J hJ m E H ⟨i, rfl, hi, hb, rfl, rfl⟩
  by_cases h : i < ls.length
  case neg =>
    have hi' : i = ls.length := by omega
    subst hi'
    have he : bareI cs ls = -1 := firstI_none hb
    simp [c_impl_Region_each_L0, eachH]
    refine ⟨ok141, call_on (s_impl_solutions_1F W T cs ds ls acc hok hac) ?_⟩
    simp [allT_leaf n (show bareI cs ls < 0 by omega), keepT_one]
    exact List.take_of_length_le (by simp)
  have next : bareB cs ls i = false → again J (ls.length - i) [(1, .ls 1 0 0 ls.length), (2, .fn 144 [.lp 0 1 0 0, .lp 0 2 0 0, .lp 0 3 0 0]), (3, .lp 0 4 0 0), (7, .v (.int .i64 (i + 1))), (63, .fn 144 [.lp 0 1 0 0, .lp 0 2 0 0, .lp 0 3 0 0])]
      (eachH W T cs ds ls acc) := by
    intro hx
    refine ⟨_, by omega, hJ _ _ _ ⟨i + 1, rfl, h, ?_, rfl, rfl⟩⟩
    intro j hj
    rcases Nat.lt_or_ge j i with h1 | h1
    · exact hb j h1
    · have : j = i := by omega
      subst this; exact hx
  have h2 : i < cs.length := by omega
  cases hc : atb cs i with
  | false =>
    have nx := next (by simp [bareB, hc])
    simp [eachH] at nx
    simp [c_impl_Region_each_L0, eachH, h, h2, hc]
    exact ⟨by omega, nx⟩
  | true =>
  by_cases z : ati ls i = 0
  case neg =>
    have nx := next (by simp [bareB, z])
    simp [eachH] at nx
    simp [c_impl_Region_each_L0, eachH, h, h2, hc, z]
    exact ⟨by omega, nx⟩
  have he : bareI cs ls = i := firstI_hit h (by simp [bareB, hc, z]) hb
  have hzp := zeros_pos h z
  obtain ⟨n', rfl⟩ : ∃ n', n = n' + 1 := ⟨n - 1, by omega⟩
  have hk0 : ¬ (i : Int) < 0 := by omega
  have hall : allT W T cs (n' + 1) ls = accT W T cs n' ls i 2 := by
    rw [allT, he, if_neg hk0]
    simp [accT, partT, List.range_succ]
  rw [hall]
  have hne : ¬ ((i : Int) = ls.length) := by omega
  simp [c_impl_Region_each_L0, eachH, h, h2, hc, z, hne]
  have b1 := accT_length W T cs n' ls i
  have hpow : 2 ^ (n' + 1) = 2 * 2 ^ n' := by rw [Nat.pow_succ]; omega
  refine loop_by (fun m E H => ∃ j : Nat, m = 2 - j ∧ j ≤ 2 ∧ H = eachH2 W T cs ds ls (acc ++ keepT W T ds (accT W T cs n' ls i j)) ∧
    E = [(1, .ls 1 0 0 ls.length), (2, .fn 144 [.lp 0 1 0 0, .lp 0 2 0 0, .lp 0 3 0 0]), (3, .lp 0 4 0 0), (7, .v (.int .i64 i)), (38, .ls 1 5 0 2), (39, .v (.int .i64 2)), (40, .v (.int .i64 j)), (63, .fn 144 [.lp 0 1 0 0, .lp 0 2 0 0, .lp 0 3 0 0])]) 2 ⟨0, by simp [eachH2, accT, keepT]⟩ ?_
  rintro J2 hJ2 m2 E2 H2 ⟨j, rfl, hj, rfl, rfl⟩
  by_cases h3 : j < 2
  case neg =>
    have : j = 2 := by omega
    subst this
    simp [c_impl_Region_each_L1, eachH2]
    exact List.take_of_length_le (by simp)
  have h01 : j = 0 ∨ j = 1 := by omega
  rcases h01 with rfl | rfl
  · have hsuc : accT W T cs n' ls i (0 + 1) = accT W T cs n' ls i 0 ++ partT W T cs n' ls i 1 := by simpa using accT_succ W T cs n' ls i 0
    have bl := b1 0
    have kl := keepT_length W T ds (accT W T cs n' ls i 0)
    have hlen : (acc ++ keepT W T ds (accT W T cs n' ls i 0)).length + 2 ^ n' ≤ 2 ^ 37 := by rw [List.length_append]; omega
    have next2 : ∀ x, partT W T cs n' ls i 1 = x → again J2 (2 - 0) [(1, .ls 1 0 0 ls.length), (2, .fn 144 [.lp 0 1 0 0, .lp 0 2 0 0, .lp 0 3 0 0]), (3, .lp 0 4 0 0), (7, .v (.int .i64 i)), (38, .ls 1 5 0 2), (39, .v (.int .i64 2)), (40, .v (.int .i64 1)), (63, .fn 144 [.lp 0 1 0 0, .lp 0 2 0 0, .lp 0 3 0 0])]
        (eachH2 W T cs ds ls ((acc ++ keepT W T ds (accT W T cs n' ls i 0)) ++ keepT W T ds x)) := by
      rintro x rfl
      refine ⟨_, by omega, hJ2 _ _ _ ⟨0 + 1, rfl, by omega, ?_, rfl⟩⟩
      rw [hsuc, keepT_append, List.append_assoc]
    generalize hA : acc ++ keepT W T ds (accT W T cs n' ls i 0) = A at *
    simp [c_impl_Region_each_L1, eachH2]
    refine call_on (s_impl_Region_free W T cs ls i 1 hr hl) ?_
    cases hf : freeB W T cs ls i 1 with
    | false =>
      have nx := next2 [] (by simp [partT, hf])
      simp [eachH2, keepT] at nx
      simp
      exact nx
    | true =>
      have nx := next2 (allT W T cs n' (layI W T ls i 1)) (by simp [partT, hf])
      have hzl : zeros (layI W T ls i 1) < zeros ls := lay_zeros h z (by omega) (by omega)
      have rcr := ih n' rfl (layI W T ls i 1) A (by omega) (lay_ok hr hy hf) hlen
      have hll := layI_length W T ls i 1
      simp [eachH2] at nx
      simp
      (repeat' first | assumption | omega | apply And.intro) <;>
      · refine call_on (s_impl_Region_lay W T cs ls i 1 hr hl hf) ?_
        simp [hll]
        (repeat' first | assumption | omega | apply And.intro) <;>
        · refine call_on rcr ?_
          simp [hll]
          exact nx
  · have hsuc : accT W T cs n' ls i (1 + 1) = accT W T cs n' ls i 1 ++ partT W T cs n' ls i 2 := by simpa using accT_succ W T cs n' ls i 1
    have bl := b1 1
    have kl := keepT_length W T ds (accT W T cs n' ls i 1)
    have hlen : (acc ++ keepT W T ds (accT W T cs n' ls i 1)).length + 2 ^ n' ≤ 2 ^ 37 := by rw [List.length_append]; omega
    have next2 : ∀ x, partT W T cs n' ls i 2 = x → again J2 (2 - 1) [(1, .ls 1 0 0 ls.length), (2, .fn 144 [.lp 0 1 0 0, .lp 0 2 0 0, .lp 0 3 0 0]), (3, .lp 0 4 0 0), (7, .v (.int .i64 i)), (38, .ls 1 5 0 2), (39, .v (.int .i64 2)), (40, .v (.int .i64 2)), (63, .fn 144 [.lp 0 1 0 0, .lp 0 2 0 0, .lp 0 3 0 0])]
        (eachH2 W T cs ds ls ((acc ++ keepT W T ds (accT W T cs n' ls i 1)) ++ keepT W T ds x)) := by
      rintro x rfl
      refine ⟨_, by omega, hJ2 _ _ _ ⟨1 + 1, rfl, by omega, ?_, rfl⟩⟩
      rw [hsuc, keepT_append, List.append_assoc]
    generalize hA : acc ++ keepT W T ds (accT W T cs n' ls i 1) = A at *
    simp [c_impl_Region_each_L1, eachH2]
    refine call_on (s_impl_Region_free W T cs ls i 2 hr hl) ?_
    cases hf : freeB W T cs ls i 2 with
    | false =>
      have nx := next2 [] (by simp [partT, hf])
      simp [eachH2, keepT] at nx
      simp
      exact nx
    | true =>
      have nx := next2 (allT W T cs n' (layI W T ls i 2)) (by simp [partT, hf])
      have hzl : zeros (layI W T ls i 2) < zeros ls := lay_zeros h z (by omega) (by omega)
      have rcr := ih n' rfl (layI W T ls i 2) A (by omega) (lay_ok hr hy hf) hlen
      have hll := layI_length W T ls i 2
      simp [eachH2] at nx
      simp
      (repeat' first | assumption | omega | apply And.intro) <;>
      · refine call_on (s_impl_Region_lay W T cs ls i 2 hr hl hf) ?_
        simp [hll]
        (repeat' first | assumption | omega | apply And.intro) <;>
        · refine call_on rcr ?_
          simp [hll]
          exact nx

theorem s_impl_each (W T : Int) (cs : List Bool) (ds : List Int) (hr : regB W T cs = true) (hd : digsB cs ds = true) : ∀ (n : Nat) (ls : List Int) (acc : List (List Int)), zeros ls ≤ n → laysB W T cs ls = true → acc.length + 2 ^ n ≤ 2 ^ 37 →
    SoundAt Tryz.prog n_impl_Region_each [.agg [.v (.int .i64 W), .v (.int .i64 T), .sl 1 1 (bools cs)], .os 1 (ints ls), .fn 144 [.op [.v (.int .i64 W), .v (.int .i64 T), .sl 0 1 (bools cs)], .op [.sl 0 1 (ints ds)], .op [.os 1 (oss acc)]]]
      (.v (.bool true)) [.bot, .bot, .fn 144 [.op [.v (.int .i64 W), .v (.int .i64 T), .sl 0 1 (bools cs)], .op [.sl 0 1 (ints ds)], .op [.os 1 (oss (acc ++ keepT W T ds (allT W T cs n ls)))]]] := by
  intro n
  induction n with
  | zero => intro ls acc h1 h2 h3; exact each_of W T cs ds hr hd 0 (fun m h => by omega) ls acc h1 h2 h3
  | succ n ih =>
    intro ls acc h1 h2 h3
    refine each_of W T cs ds hr hd (n + 1) (fun m h => ?_) ls acc h1 h2 h3
    have : m = n := by omega
    subst this
    exact ih

end Go.Proofs.Dev

namespace Go.Proofs.Dev

-- 1 parameters, results [.t 2], 9 slots, modes [true]
@[simp] abbrev n_slices_Clip_ints : Nat := 145

def c_slices_Clip_ints : ACode := .seq (.reg [.o 2 .mv [.c (.os 1 [])]]) <| .seq (.reg [.m 3 0, .m 4 0, .o 5 (.len false) [.t 4], .m 6 0,
 .o 7 (.len false) [.t 6], .o 8 (.slice 1 false false true true) [.t 3, .t 5, .t 7], .m 2 8]) <| .ret

theorem k_slices_Clip_ints : cFn Tryz.prog n_slices_Clip_ints 9 [.t 2] c_slices_Clip_ints := ⟨Tryz.f145, _, Tryz.func145, rfl, by kernel_rfl, by kernel_rfl, by kernel_rfl, by kernel_rfl⟩

-- 3 parameters, results [.t 6, .t 7], 61 slots, modes [false, false, false]
@[simp] abbrev n_spec_SolveFirst : Nat := 109
def c_spec_SolveFirst_L0 : ACode := .seq (.seq (.reg [.m 27 11, .m 28 2, .o 29 (.len false) [.t 28], .o 30 (.bin .lss 0) [.t 27, .t 29]]) <|
 .cond (.t 30) ( .skip) ( .exit 2)) <| .seq (.block 3 ( .draw ( .take (.m 33 10) <| .take (.m 34 33) <| .take (.mg 35 2 34 true) <| .take (.mg 36 11 34 true) <|
 .take (.g 37 (.iadr 1) [.t 35, .t 36] 34 true) <| .al (.g 38 (.load false 1) [.t 37] 34 true) ( .take (.g 39 (.bin .eql 0) [.t 38, .k 0] 34 true) <|
 .take (.mg 40 39 34 true) <| .take (.mg 41 8 40 false) <| .take (.mg 42 9 40 false) <| .take (.g 43 (.iadr 1) [.t 41, .t 42] 40 false) <|
 .take (.mg 45 11 40 false) <| .take (.mg 48 2 40 false) <| .take (.mg 49 11 40 false) <| .take (.g 50 (.iadr 1) [.t 48, .t 49] 40 false) <|
 .alt (.g 44 (.load false 1) [.t 43] 40 false) ( .take (.g 46 (.iadr 1) [.t 44, .t 45] 40 false) <|
 .alt (.g 47 (.load false 1) [.t 46] 40 false) ( .al (.g 51 (.load false 1) [.t 50] 40 false) ( .take (.g 52 (.bin .eql 0) [.t 47, .t 51] 40 false) <|
 .take (.g 53 .pick [.t 40, .c (.v (.bool true)), .t 52] 34 true) <| .take (.o 54 .pick [.t 34, .t 53, .c (.v (.bool false))]) <| .take (.m 10 54) <| .done)) <|
 .al (.g 51 (.load false 1) [.t 50] 40 false) ( .al (.g 47 (.load false 1) [.t 46] 40 false) ( .take (.g 52 (.bin .eql 0) [.t 47, .t 51] 40 false) <|
 .take (.g 53 .pick [.t 40, .c (.v (.bool true)), .t 52] 34 true) <| .take (.o 54 .pick [.t 34, .t 53, .c (.v (.bool false))]) <| .take (.m 10 54) <| .done))) <|
 .al (.g 51 (.load false 1) [.t 50] 40 false) ( .al (.g 44 (.load false 1) [.t 43] 40 false) ( .take (.g 46 (.iadr 1) [.t 44, .t 45] 40 false) <|
 .al (.g 47 (.load false 1) [.t 46] 40 false) ( .take (.g 52 (.bin .eql 0) [.t 47, .t 51] 40 false) <| .take (.g 53 .pick [.t 40, .c (.v (.bool true)),
 .t 52] 34 true) <| .take (.o 54 .pick [.t 34, .t 53, .c (.v (.bool false))]) <| .take (.m 10 54) <| .done))))))) <| .reg [.m 31 11, .o 32 (.bin .add 0) [.t 31,
 .k 1], .m 11 32]

def c_spec_SolveFirst_L1 : ACode := .seq (.seq (.reg [.m 15 9, .m 16 8, .o 17 (.len false) [.t 16], .o 18 (.bin .lss 0) [.t 15, .t 17], .m 19 18,
 .g 20 (.load true 3) [.t 3] 19 true, .mg 21 1 19 true, .mg 22 2 19 true, .g 23 (.call 85 []) [.t 20, .t 21, .t 22] 19 true, .o 24 .pick [.t 19, .t 23,
 .c (.v (.bool false))]]) <| .cond (.t 24) ( .skip) ( .exit 0)) <| .seq (.block 1 ( .seq (.reg [.o 10 .mv [.c (.v (.bool true))]]) <|
 .seq (.seq (.reg [.o 11 .mv [.k 0]]) <| .block 2 ( .loop [(1, 1), (2, 1), (8, 1)] [1, 2, 3, 8, 9, 10, 11] c_spec_SolveFirst_L0)) <| .seq (.reg [.m 55 10]) <|
 .cond (.t 55) ( .seq (.reg [.m 56 8, .m 57 9, .o 58 (.iadr 1) [.t 56, .t 57], .l 59 58, .m 6 59, .o 7 .mv [.c (.v (.bool true))]]) <| .ret) ( .skip))) <|
 .reg [.m 25 9, .o 26 (.bin .add 0) [.t 25, .k 1], .m 9 26]

def c_spec_SolveFirst : ACode := .seq (.reg [.o 3 .box [.t 0], .o 6 .mv [.c (.os 1 [])], .o 7 .mv [.c (.v (.bool false))]]) <|
 .seq (.reg [.o 12 (.load true 3) [.t 3], .m 13 1, .o 14 (.call 154 []) [.t 12, .t 13], .m 8 14]) <| .seq (.seq (.reg [.o 9 .mv [.k 0]]) <| .block 0 ( .loop [(1,
 1), (2, 1), (8, 1)] [1, 2, 3, 8, 9] c_spec_SolveFirst_L1)) <| .seq (.reg [.o 60 (.bsl 1) [], .m 6 60, .o 7 .mv [.c (.v (.bool false))]]) <| .ret

theorem k_spec_SolveFirst : cFn Tryz.prog n_spec_SolveFirst 61 [.t 6, .t 7] c_spec_SolveFirst := ⟨Tryz.f109, _, Tryz.func109, rfl, by kernel_rfl, by kernel_rfl, by kernel_rfl, by kernel_rfl⟩

end Go.Proofs.Dev

namespace Go.Proofs.Dev
set_option linter.unusedSimpArgs false
set_option maxRecDepth 100000

theorem noVL_ints : ∀ xs : List Int, noVL (ints xs) = true
  | [] => by simp [noVL]
  | x :: xs => by show (noV (.v (.int .i64 x)) && noVL (ints xs)) = true; rw [noVL_ints xs]; simp [noV]
theorem noVL_oss : ∀ ps : List (List Int), noVL (oss ps) = true
  | [] => by simp [noVL]
  | p :: ps => by show (noV (.os 1 (ints p)) && noVL (oss ps)) = true; rw [noVL_oss ps]; simp [noV, noVL_ints]

theorem s_slices_Clip_ints (ps : List (List Int)) : SoundAt Tryz.prog n_slices_Clip_ints [.os 1 (oss ps)] (.os 1 (oss ps)) [.bot] := by
  refine fn_ok (md := md0) (ms := [false]) k_slices_Clip_ints (by simp) ?_
  simp [c_slices_Clip_ints]

theorem s_impl_Region_solutions0 (W T : Int) (cs : List Bool) (ds ls : List Int) (hok : okB W T cs ds ls = true) :
    SoundAt Tryz.prog n_impl_Region_solutions [.agg [.v (.int .i64 W), .v (.int .i64 T), .sl 0 1 (bools cs)], .sl 0 1 (ints ds), .sl 0 1 (ints ls)] (.os 1 (oss (keepT W T ds (allT W T cs cs.length ls)))) [.bot, .bot, .bot] := by
  refine fn_ok (md := md2) (ms := [false, false, false]) k_impl_Region_solutions (by simp) ?_
  have hok' := hok
  simp only [okB, Bool.and_eq_true] at hok'
  obtain ⟨hr, hd, hy⟩ := hok'
  have h36 := regB_len hr
  have hl := lays_len hy
  have hz : zeros ls ≤ cs.length := by have := zeros_le ls; omega
  have hpow : 2 ^ cs.length ≤ 2 ^ 36 := Nat.pow_le_pow_right (by omega) h36
  have each := s_impl_each W T cs ds hr hd cs.length ls [] hz hy (by simp only [List.length_nil, Nat.zero_add]; exact Nat.le_trans hpow (by decide))
  rw [oss_nil, List.nil_append] at each
  simp [c_impl_Region_solutions]
  (repeat' first | assumption | omega | apply And.intro) <;>
  · refine call_on (s_impl_clone_int ls (by omega)) ?_
    simp
    (repeat' first | assumption | omega | apply And.intro) <;>
    · refine call_on each ?_
      simp [c_impl_Region_solutions_T0]
      refine call_on (s_slices_Clip_ints (keepT W T ds (allT W T cs cs.length ls))) ?_
      simp

theorem s_impl_Region_solutions (W T : Int) (cs : List Bool) (ds ls : List Int) (hok : okB W T cs ds ls = true) :
    SoundAt Tryz.prog n_impl_Region_solutions [.agg [.v (.int .i64 W), .v (.int .i64 T), .sl 1 1 (bools cs)], .sl 1 1 (ints ds), .sl 1 1 (ints ls)] (.os 1 (oss (keepT W T ds (allT W T cs cs.length ls)))) [.bot, .bot, .bot] := by
  refine SoundAt.lift (n := 3) (fun C S us hr => noOL_ok _ S us rfl hr) (by simp [noV, noVL_oss]) ?_
  have h := s_impl_Region_solutions0 W T cs ds ls hok
  simpa [vwL, vw] using h

theorem keepT_sols {W T : Int} {cs : List Bool} {ds : List Int} (h : (regB W T cs && digsB cs ds) = true) : keepT W T ds (allT W T cs cs.length (noneL cs)) = solsI W T cs ds := by
  have hr : regB W T cs = true := by simp only [Bool.and_eq_true] at h; exact h.1
  rw [sols_fair h, tilesI, if_pos hr]; rfl

theorem s_impl_SolutionsAll (W T : Int) (cs : List Bool) (ds : List Int) (hb : cs.length < 2 ^ 40) (hd : ds.length < 2 ^ 40) :
    SoundAt Tryz.prog n_impl_SolutionsAll [.agg [.v (.int .i64 W), .v (.int .i64 T), .sl 1 1 (bools cs)], .sl 1 1 (ints ds)] (.os 1 (oss (solsI W T cs ds))) [.bot, .bot] := by
  refine fn_ok (md := md0) (ms := [false, false]) k_impl_SolutionsAll (by simp) ?_
  simp [c_impl_SolutionsAll]
  refine call_on (s_impl_PuzzleValid W T cs ds hb hd) ?_
  cases hv : (regB W T cs && digsB cs ds) with
  | false =>
    have e : solsI W T cs ds = [] := by rw [solsI, if_neg (by simp [hv])]
    simp [e]
  | true =>
  have hr : regB W T cs = true := by simp only [Bool.and_eq_true] at hv; exact hv.1
  have hdg : digsB cs ds = true := by simp only [Bool.and_eq_true] at hv; exact hv.2
  have hdl : ds.length = cs.length := by simp only [digsB, Bool.and_eq_true, decide_eq_true_eq] at hdg; exact hdg.1
  have sol := s_impl_Region_solutions W T cs ds (noneL cs) (by simp only [okB, hr, hdg, lays_none, Bool.and_self])
  rw [keepT_sols hv] at sol
  have en : ints (List.replicate ds.length 0) = ints (noneL cs) := by rw [hdl]; rfl
  simp [ints_rep]
  (repeat' first | assumption | omega | apply And.intro) <;>
  · rw [en]
    refine call_on sol ?_
    have htk : (ints (noneL cs)).take ds.length = ints (noneL cs) := List.take_of_length_le (by simp [noneL, hdl])
    have hnl : (noneL cs).length = ds.length := by simp [noneL, hdl]
    simp [htk, hnl]

/-- The first solution with the dominoes of a fair list. -/
def firstHas (W T : Int) (cs : List Bool) (ds ls : List Int) : Option (List Int) := if fairB W T cs ds ls then (solsI W T cs ds).find? (hasB ls) else none
def resF : Option (List Int) → AV
  | some x => .tup [.sl 0 1 (ints x), .v (.bool true)]
  | none => .tup [.os 1 [], .v (.bool false)]
theorem sols_len {W T : Int} {cs : List Bool} {ds p : List Int} (h : p ∈ solsI W T cs ds) : p.length = cs.length := by
  unfold solsI at h
  split at h
  · exact tiles_mem (List.mem_filter.1 h).1
  · cases h

theorem sols_length {W T : Int} {cs : List Bool} {ds : List Int} : (solsI W T cs ds).length ≤ 68719476736 := by
  unfold solsI
  split
  · exact Nat.le_trans (List.length_filter_le _ _) tiles_length
  · simp

theorem find_pti {ps : List (List Int)} {p : List Int → Bool} {i : Nat} (h : i < ps.length) (ha : ∀ j : Nat, j < i → p (pti ps j) = false) (hp : p (pti ps i) = true) : ps.find? p = some (pti ps i) := by
  rw [List.find?_eq_some_iff_getElem]
  refine ⟨hp, i, h, (pti_get h).symm, fun j hj => ?_⟩
  have h2 := ha j hj
  rw [pti_get (by omega)] at h2
  simp [h2]
theorem find_none {ps : List (List Int)} {p : List Int → Bool} (ha : ∀ j : Nat, j < ps.length → p (pti ps j) = false) : ps.find? p = none := by
  rw [List.find?_eq_none]
  intro x hx
  obtain ⟨j, hj, rfl⟩ := List.getElem_of_mem hx
  have h2 := ha j hj
  rw [pti_get hj] at h2
  simp [h2]

def hasTo (ls p : List Int) (n : Nat) : Bool := allB n fun k => decide (ati ls k = 0) || decide (ati p k = ati ls k)
theorem hasTo_succ (ls p : List Int) (n : Nat) : hasTo ls p (n + 1) = (hasTo ls p n && (decide (ati ls n = 0) || decide (ati p n = ati ls n))) := by simp [hasTo, allB_succ]
theorem hasTo_all (ls p : List Int) : hasTo ls p ls.length = hasB ls p := rfl

theorem s_spec_SolutionsAllF (W T : Int) (cs : List Bool) (ds : List Int) (hb : cs.length < 2 ^ 40) (hd : ds.length < 2 ^ 40) :
    SoundAt Tryz.prog n_spec_SolutionsAll [.agg [.v (.int .i64 W), .v (.int .i64 T), .sl 1 1 (bools cs)], .sl 1 1 (ints ds)] (.sl 0 1 (sls 0 (solsI W T cs ds))) [.bot, .bot] := by
  have h := SoundAt.frozen (n := 2) (fun C S us hr => noOL_ok _ S us rfl hr) (s_spec_SolutionsAll W T cs ds hb hd)
  simpa [vw] using h

theorem s_spec_SolveFirst (W T : Int) (cs : List Bool) (ds ls : List Int) (hb : cs.length < 2 ^ 40) (hd : ds.length < 2 ^ 40) (hl : ls.length < 2 ^ 40) :
    SoundAt Tryz.prog n_spec_SolveFirst [.agg [.v (.int .i64 W), .v (.int .i64 T), .sl 1 1 (bools cs)], .sl 1 1 (ints ds), .sl 1 1 (ints ls)] (resF (firstHas W T cs ds ls)) [.bot, .bot, .bot] := by
  refine fn_ok (md := md0) (ms := [false, false, false]) k_spec_SolveFirst (by simp) ?_
  simp [c_spec_SolveFirst]
  refine call_on (s_spec_SolutionsAllF W T cs ds hb hd) ?_
  simp
  refine loop_by (fun m E H => ∃ i : Nat, m = (solsI W T cs ds).length - i ∧ i ≤ (solsI W T cs ds).length ∧ (∀ j : Nat, j < i → hasB ls (pti (solsI W T cs ds) j) = false) ∧ H = [some (.box [.v (.int .i64 W), .v (.int .i64 T), .sl 1 1 (bools cs)])] ∧
    E = [(1, .sl 1 1 (ints ds)), (2, .sl 1 1 (ints ls)), (3, .lp 0 0 0 0), (8, .sl 0 1 (sls 0 (solsI W T cs ds))), (9, .v (.int .i64 i))]) (solsI W T cs ds).length ⟨0, by simp⟩ ?_
  rintro J hJ m E H ⟨i, rfl, hi, ha, rfl, rfl⟩
  by_cases h : i < (solsI W T cs ds).length
  case neg =>
    have e : firstHas W T cs ds ls = none := by
      unfold firstHas; split
      · exact find_none fun j hj => ha j (by omega)
      · rfl
    have hi' : i = (solsI W T cs ds).length := by omega
    simp [c_spec_SolveFirst_L1, e, resF, hi']
  simp [c_spec_SolveFirst_L1, h]
  refine call_on (s_spec_FairOk W T cs ds ls hb hd hl) ?_
  cases hf : fairB W T cs ds ls with
  | false =>
    have e : firstHas W T cs ds ls = none := by simp [firstHas, hf]
    simp [e, resF]
  | true =>
  obtain ⟨hr, e1, e2, _⟩ := okB_W (fairB_ok hf)
  have hpl : (pti (solsI W T cs ds) i).length = cs.length := sols_len (pti_mem h)
  simp
  refine loop_by (fun m E H => ∃ j : Nat, m = ls.length - j ∧ j ≤ ls.length ∧ H = [some (.box [.v (.int .i64 W), .v (.int .i64 T), .sl 1 1 (bools cs)])] ∧
    E = [(1, .sl 1 1 (ints ds)), (2, .sl 1 1 (ints ls)), (3, .lp 0 0 0 0), (8, .sl 0 1 (sls 0 (solsI W T cs ds))), (9, .v (.int .i64 i)), (10, .v (.bool (hasTo ls (pti (solsI W T cs ds) i) j))), (11, .v (.int .i64 j))]) ls.length ⟨0, by simp [hasTo, allB_zero]⟩ ?_
  rintro J2 hJ2 m2 E2 H2 ⟨j, rfl, hj, rfl, rfl⟩
  by_cases h2 : j < ls.length
  case neg =>
    have hj' : j = ls.length := by omega
    subst hj'
    rw [hasTo_all]
    cases hh : hasB ls (pti (solsI W T cs ds) i) with
    | true =>
      have e : firstHas W T cs ds ls = some (pti (solsI W T cs ds) i) := by
        unfold firstHas
        rw [if_pos hf]
        exact find_pti h ha hh
      simp [c_spec_SolveFirst_L0, e, resF, h]
    | false =>
      simp [c_spec_SolveFirst_L0]
      refine ⟨by have := sols_length (W := W) (T := T) (cs := cs) (ds := ds); omega, ?_⟩
      refine ⟨_, by omega, hJ _ _ _ ⟨i + 1, rfl, h, ?_, rfl, rfl⟩⟩
      intro k hk
      rcases Nat.lt_or_ge k i with h1 | h1
      · exact ha k h1
      · have : k = i := by omega
        subst this; exact hh
  have hs := hasTo_succ ls (pti (solsI W T cs ds) i) j
  have next : ∀ b : Bool, hasTo ls (pti (solsI W T cs ds) i) (j + 1) = b → again J2 (ls.length - j) [(1, .sl 1 1 (ints ds)), (2, .sl 1 1 (ints ls)), (3, .lp 0 0 0 0), (8, .sl 0 1 (sls 0 (solsI W T cs ds))), (9, .v (.int .i64 i)), (10, .v (.bool b)), (11, .v (.int .i64 (j + 1)))]
      [some (.box [.v (.int .i64 W), .v (.int .i64 T), .sl 1 1 (bools cs)])] := by
    rintro b rfl
    exact ⟨_, by omega, hJ2 _ _ _ ⟨j + 1, rfl, h2, rfl, rfl⟩⟩
  have hjp : j < (pti (solsI W T cs ds) i).length := by omega
  cases hh : hasTo ls (pti (solsI W T cs ds) i) j with
  | false =>
    have n := next false (by rw [hs, hh]; rfl)
    simp [c_spec_SolveFirst_L0, h2]
    exact ⟨by omega, n⟩
  | true =>
  by_cases z : ati ls j = 0
  · have n := next true (by rw [hs, hh, z]; rfl)
    simp [c_spec_SolveFirst_L0, h2, z]
    exact ⟨by omega, n⟩
  by_cases ez : ati (pti (solsI W T cs ds) i) j = ati ls j
  · have n := next true (by rw [hs, hh, ez]; simp)
    simp [c_spec_SolveFirst_L0, h2, z, h, hjp, ez]
    exact ⟨by omega, n⟩
  · have n := next (ati (pti (solsI W T cs ds) i) j == ati ls j) (by rw [hs, hh]; simp [z, ez])
    simp [c_spec_SolveFirst_L0, h2, z, h, hjp]
    exact ⟨by omega, n⟩

end Go.Proofs.Dev

namespace Go.Proofs.Dev
set_option linter.unusedSimpArgs false
set_option maxRecDepth 100000

theorem firstHas_some {W T : Int} {cs : List Bool} {ds ls x : List Int} (h : firstHas W T cs ds ls = some x) : fairB W T cs ds ls = true ∧ x.length = cs.length := by
  unfold firstHas at h
  split at h
  · rename_i hf
    exact ⟨hf, sols_len (List.mem_of_find?_eq_some h)⟩
  · cases h

end Go.Proofs.Dev

namespace Go.Proofs.Dev
set_option linter.unusedSimpArgs false

theorem nodup_le : ∀ {l m : List Int}, l.Nodup → (∀ x ∈ l, x ∈ m) → l.length ≤ m.length
  | [], m, _, _ => by simp
  | x :: l, m, hn, hs => by
    rw [List.nodup_cons] at hn
    have hx : x ∈ m := hs x (by simp)
    have h1 := nodup_le (l := l) (m := m.erase x) hn.2 (fun y hy => by
      rw [List.mem_erase_of_ne (by intro e; subst e; exact hn.1 hy)]
      exact hs y (by simp [hy]))
    rw [List.length_erase_of_mem hx] at h1
    have : 0 < m.length := List.length_pos_of_mem hx
    simp only [List.length_cons]; omega

/-- What has the dominoes of a list has their pairs. -/
theorem pairs_sub {W T : Int} {ds a b : List Int} (hl : a.length = b.length) (h : ∀ k : Nat, k < a.length → ati a k = 0 ∨ ati b k = ati a k) : List.Sublist (pairsI W T ds a) (pairsI W T ds b) := by
  have : ∀ n, n ≤ a.length → List.Sublist (pairsTo W T ds a n) (pairsTo W T ds b n) := by
    intro n
    induction n with
    | zero => intro _; simp [pairsTo]
    | succ n ih =>
      intro hn
      rw [pairsTo_succ, pairsTo_succ]
      rcases h n (by omega) with h0 | h0
      · rw [if_neg (by omega)]
        exact (ih (by omega)).append (List.nil_sublist _)
      · rw [h0]
        exact (ih (by omega)).append (List.Sublist.refl _)
  have e := this a.length (Nat.le_refl _)
  unfold pairsI
  rw [← hl]; exact e

theorem once_sub {a b : List Int} (h : List.Sublist a b) (hb : onceB b = true) : onceB a = true := by
  simp only [onceB, decide_eq_true_eq] at hb ⊢
  exact h.nodup hb

theorem has_pairs {W T : Int} {ds a b : List Int} (hl : a.length = b.length) (h : hasB a b = true) : List.Sublist (pairsI W T ds a) (pairsI W T ds b) :=
  pairs_sub hl fun k hk => hasB_iff.1 h k hk

theorem has_trans {a b c : List Int} (hl : a.length = b.length) (h1 : hasB a b = true) (h2 : hasB b c = true) : hasB a c = true := by
  rw [hasB_iff] at *
  intro k hk
  rcases h1 k hk with h | h
  · exact .inl h
  · rcases h2 k (by omega) with h3 | h3
    · left; omega
    · right; omega

/-- A list without the domino on a cell. -/
def liftI (W T : Int) (ls : List Int) (cell : Int) : List Int := (ls.set (stepI W T cell (ati ls cell)).toNat 0).set cell.toNat 0
theorem liftI_length (W T : Int) (ls : List Int) (cell : Int) : (liftI W T ls cell).length = ls.length := by simp [liftI]

theorem lift_at {W T : Int} {cs : List Bool} {ls : List Int} {k : Nat} (hr : regB W T cs = true) (hy : laysB W T cs ls = true) (hk : k < ls.length) (hv : ati ls k ≠ 0) :
    ∃ t : Nat, stepI W T k (ati ls k) = t ∧ t < ls.length ∧ t ≠ k ∧ ∀ j : Nat, ati (liftI W T ls k) j = if j = k then 0 else if j = t then 0 else ati ls j := by
  obtain ⟨w1, w2, t1, t2, l1, _⟩ := regB_W hr
  have hl := lays_len hy
  obtain ⟨v1, v4, g3, g4, g5, g6⟩ := lays_at hy hk hv
  obtain ⟨_, _, _, b4, b5⟩ := step_back (W := W) (T := T) (k := k) (way := ati ls k) w1 (by omega) (by omega) g4
  refine ⟨(stepI W T k (ati ls k)).toNat, by omega, by omega, by omega, fun j => ?_⟩
  unfold liftI
  rw [ati_set (by simpa using hk), ati_set (by omega)]
  simp

theorem lift_ok {W T : Int} {cs : List Bool} {ls : List Int} {k : Nat} (hr : regB W T cs = true) (hy : laysB W T cs ls = true) (hk : k < ls.length) (hv : ati ls k ≠ 0) : laysB W T cs (liftI W T ls k) = true := by
  obtain ⟨w1, w2, t1, t2, l1, _⟩ := regB_W hr
  have hl := lays_len hy
  obtain ⟨t, e, ht, htk, hat⟩ := lift_at hr hy hk hv
  obtain ⟨v1, v4, g3, g4, g5, g6⟩ := lays_at hy hk hv
  have sb := step_back (W := W) (T := T) (k := k) (way := ati ls k) w1 (by omega) (by omega) g4
  rw [e] at g6 sb
  simp only [laysB, Bool.and_eq_true, decide_eq_true_eq, allB_iff, liftI_length]
  refine ⟨hl, fun j hj => ?_⟩
  simp only [layAt, decide_eq_true_eq]
  rw [hat j]
  by_cases e1 : j = k
  · rw [if_pos e1]; exact .inl rfl
  rw [if_neg e1]
  by_cases e2 : j = t
  · rw [if_pos e2]; exact .inl rfl
  rw [if_neg e2]
  by_cases e3 : ati ls j = 0
  · exact .inl e3
  right
  obtain ⟨u1, u4, q3, q4, q5, q6⟩ := lays_at hy hj e3
  have sj := step_back (W := W) (T := T) (k := j) (way := ati ls j) w1 (by omega) (by omega) q4
  obtain ⟨s, hs⟩ : ∃ s : Nat, stepI W T j (ati ls j) = s := ⟨(stepI W T j (ati ls j)).toNat, by omega⟩
  rw [hs] at q4 q5 q6 sj ⊢
  refine ⟨u1, u4, q3, q4, q5, ?_⟩
  rw [hat s]
  have n1 : s ≠ k := by
    intro h
    subst h
    have h2 := sj.1
    rw [← q6, e] at h2
    omega
  have n2 : s ≠ t := by
    intro h
    subst h
    have h2 := sj.1
    rw [← q6, g6, sb.1] at h2
    omega
  rw [if_neg n1, if_neg n2]; exact q6

theorem fair_parts {W T : Int} {cs : List Bool} {ds ls : List Int} (h : fairB W T cs ds ls = true) : regB W T cs = true ∧ digsB cs ds = true ∧ laysB W T cs ls = true ∧ onceB (pairsI W T ds ls) = true := by
  simp only [fairB, okB, Bool.and_eq_true] at h
  exact ⟨h.1.1, h.1.2.1, h.1.2.2, h.2⟩
theorem fair_of {W T : Int} {cs : List Bool} {ds ls : List Int} (h1 : regB W T cs = true) (h2 : digsB cs ds = true) (h3 : laysB W T cs ls = true) (h4 : onceB (pairsI W T ds ls) = true) : fairB W T cs ds ls = true := by
  simp only [fairB, okB, Bool.and_eq_true]
  exact ⟨⟨h1, h2, h3⟩, h4⟩

theorem pairs_domN (W T : Int) (ds ls : List Int) : (pairsI W T ds ls).length = domN ls := by
  have : ∀ n, n ≤ ls.length → (pairsTo W T ds ls n).length = domN (ls.take n) := by
    intro n
    induction n with
    | zero => intro _; simp [pairsTo, domN]
    | succ n ih =>
      intro hn
      rw [pairsTo_succ, List.length_append, ih (by omega), domN_succ (by omega)]
      congr 1
      by_cases h : ati ls n = 1 ∨ ati ls n = 2
      · rw [if_pos h]
        have : isDom (ati ls n) = true := by simpa [isDom] using h
        simp [this]
      · rw [if_neg h]
        have : isDom (ati ls n) = false := by simpa [isDom] using h
        simp [this]
  have e := this ls.length (Nat.le_refl _)
  rw [List.take_length] at e
  exact e

/-! A domino more. -/
theorem lay_hasB {W T : Int} {cs : List Bool} {ls : List Int} {k : Nat} {way : Int} (hr : regB W T cs = true) (hl : ls.length = cs.length) (hf : freeB W T cs ls k way = true) : hasB ls (layI W T ls k way) = true := by
  obtain ⟨t, e, t1, t2, t3, _, _, _, _, z1, z2, hat⟩ := free_facts hr hl hf
  rw [hasB_iff]
  intro j hj
  rw [hat j]
  by_cases e1 : j = t
  · subst e1; exact .inl z2
  by_cases e2 : j = k
  · subst e2; exact .inl z1
  rw [if_neg e1, if_neg e2]; exact .inr rfl

theorem domN_set {ls : List Int} {i : Nat} {v : Int} (h : i < ls.length) (hz : ati ls i = 0) : domN (ls.set i v) = domN ls + if isDom v then 1 else 0 := by
  have he : ls[i] = 0 := by simpa [ati, h] using hz
  unfold domN
  rw [List.countP_set h, he]
  simp [isDom]

theorem domN_lay {W T : Int} {cs : List Bool} {ls : List Int} {k : Nat} {way : Int} (hr : regB W T cs = true) (hl : ls.length = cs.length) (hf : freeB W T cs ls k way = true) : domN (layI W T ls k way) = domN ls + 1 := by
  obtain ⟨t, e, t1, t2, t3, v1, v4, _, _, z1, z2, hat⟩ := free_facts hr hl hf
  unfold layI
  have h1 : ati (ls.set k way) t = 0 := by rw [ati_set t2, if_neg t3]; exact z2
  rw [e]
  simp only [Int.toNat_natCast]
  rw [domN_set (by simpa using t1) h1, domN_set t2 z1]
  have : way = 1 ∨ way = 2 ∨ way = 3 ∨ way = 4 := by omega
  rcases this with rfl | rfl | rfl | rfl <;> simp [isDom, backI]

theorem optsI_filter (W T : Int) (cs : List Bool) (ds ls : List Int) (cell : Int) : optsI W T cs ds ls cell = [1, 2, 3, 4].filter (optB W T cs ds ls cell) := by
  simp only [optsI, optTo, List.range_succ, List.range_zero, List.nil_append, List.flatMap_append, List.flatMap_cons, List.flatMap_nil, List.append_nil, List.filter_cons, List.filter_nil]
  cases h1 : optB W T cs ds ls cell 1 <;> cases h2 : optB W T cs ds ls cell 2 <;> cases h3 : optB W T cs ds ls cell 3 <;> cases h4 : optB W T cs ds ls cell 4 <;> simp [h1, h2, h3, h4]

theorem opts_mem {W T : Int} {cs : List Bool} {ds ls : List Int} {cell x : Int} : x ∈ optsI W T cs ds ls cell ↔ optB W T cs ds ls cell x = true ∧ 1 ≤ x ∧ x ≤ 4 := by
  rw [optsI_filter, List.mem_filter]
  simp only [List.mem_cons, List.not_mem_nil, or_false]
  constructor
  · rintro ⟨h1, h2⟩; exact ⟨h2, by omega, by omega⟩
  · rintro ⟨h1, h2, h3⟩; exact ⟨by omega, h1⟩

/-! Solutions. -/
theorem solved_parts {W T : Int} {cs : List Bool} {ds p : List Int} (h : solvedB W T cs ds p = true) : fairB W T cs ds p = true ∧ fullB cs p = true := by
  simpa only [solvedB, Bool.and_eq_true] using h

theorem full_at {cs : List Bool} {p : List Int} (h : fullB cs p = true) {k : Nat} (hk : k < cs.length) (hc : atb cs k = true) : ati p k ≠ 0 := by
  rw [fullB, allB_iff] at h
  have := h k hk
  simpa [fullAt, hc] using this

theorem full_bare {cs : List Bool} {p : List Int} (hl : p.length = cs.length) (h : fullB cs p = true) : bareI cs p < 0 := by
  rcases bare_cases cs p with h1 | ⟨k, hk, he, hc, hz⟩
  · omega
  · exact absurd hz (full_at h (by omega) hc)

/-- What solves the puzzle is one of the solutions. -/
theorem mem_sols {W T : Int} {cs : List Bool} {ds p : List Int} : p ∈ solsI W T cs ds ↔ solvedB W T cs ds p = true := by
  constructor
  · intro h
    unfold solsI at h
    split at h
    · exact (List.mem_filter.1 h).2
    · cases h
  · intro h
    obtain ⟨hf, hfull⟩ := solved_parts h
    obtain ⟨hr, hd, hy, ho⟩ := fair_parts hf
    have hl := lays_len hy
    have hz : zeros p ≤ cs.length := by have := zeros_le p; omega
    have hn : (noneL cs).length = cs.length := by simp [noneL]
    have hzn : zeros (noneL cs) ≤ cs.length := by have := zeros_le (noneL cs); omega
    have e := allT_filter hr cs.length (noneL cs) p cs.length hzn hz (lays_none W T cs) hy (hasB_iff.2 fun k _ => .inl (ati_none cs k))
    rw [allT_leaf _ (full_bare hl hfull)] at e
    have hm : p ∈ (allT W T cs cs.length (noneL cs)).filter (hasB p) := by rw [e]; simp
    unfold solsI
    rw [if_pos (by simp [hr, hd]), List.mem_filter]
    refine ⟨?_, h⟩
    rw [tilesI, if_pos hr]
    exact (List.mem_filter.1 hm).1

/-- A bare cell's domino in a solution is an option. -/
theorem opt_of_sol {W T : Int} {cs : List Bool} {ds ls p : List Int} {k : Nat} (hy : laysB W T cs ls = true) (hp : solvedB W T cs ds p = true) (hs : hasB ls p = true) (hk : k < cs.length) (hc : atb cs k = true) (hz : ati ls k = 0) :
    optB W T cs ds ls k (ati p k) = true ∧ 1 ≤ ati p k ∧ ati p k ≤ 4 ∧ hasB (layI W T ls k (ati p k)) p = true := by
  obtain ⟨hf, hfull⟩ := solved_parts hp
  obtain ⟨hr, hd, hyp, ho⟩ := fair_parts hf
  have hl := lays_len hy
  have hlp := lays_len hyp
  obtain ⟨w1, w2, t1, t2, l1, _⟩ := regB_W hr
  have hv := full_at hfull hk hc
  obtain ⟨v1, v4, g3, g4, g5, g6⟩ := lays_at hyp (k := k) (by omega) hv
  obtain ⟨v, hvv⟩ : ∃ v, ati p k = v := ⟨_, rfl⟩
  rw [hvv] at v1 v4 g4 g5 g6 hv ⊢
  have sb := step_back (W := W) (T := T) (k := k) (way := v) w1 (by omega) (by omega) g4
  obtain ⟨t, ht⟩ : ∃ t : Nat, stepI W T k v = t := ⟨(stepI W T k v).toNat, by omega⟩
  have hzt : ati ls t = 0 := by
    rcases hasB_iff.1 hs t (by omega) with h | h
    · exact h
    · exfalso
      rw [ht] at g6
      have := lays_back hr hy (k := k) (t := t) (way := v) (by omega) ht (by rw [← h]; exact g6)
      omega
  have hfree : freeB W T cs ls k v = true := by
    simp only [freeB, decide_eq_true_eq]
    exact ⟨by omega, by omega, g4, hc, g5, hz, by rw [ht]; exact hzt⟩
  have hh := lay_has hr hl hfree hs hvv g6
  refine ⟨?_, v1, v4, hh⟩
  simp only [optB, Bool.and_eq_true]
  exact ⟨hfree, once_sub (has_pairs (by rw [layI_length]; omega) hh) ho⟩

/-- What is forced is in every solution. -/
theorem force1_sol {W T : Int} {cs : List Bool} {ds ls p : List Int} (hy : laysB W T cs ls = true) (hp : solvedB W T cs ds p = true) (hs : hasB ls p = true) : hasB (force1 W T cs ds ls) p = true := by
  have hl := lays_len hy
  rcases one_cases W T cs ds ls with h | ⟨k, hk, he, hc, hz, hol, hob, hw⟩
  · rw [force1, if_pos (by omega)]; exact hs
  · rw [force1, he, if_neg (by omega)]
    obtain ⟨o1, o2, o3, o4⟩ := opt_of_sol hy hp hs (by omega) hc hz
    have hm : ati p k ∈ optsI W T cs ds ls k := opts_mem.2 ⟨o1, o2, o3⟩
    rw [hol, List.mem_singleton] at hm
    rw [← hm]; exact o4

theorem force1_has {W T : Int} {cs : List Bool} {ds ls : List Int} (hr : regB W T cs = true) (hl : ls.length = cs.length) : hasB ls (force1 W T cs ds ls) = true := by
  rcases one_cases W T cs ds ls with h | ⟨k, hk, he, hc, hz, hol, hob, hw⟩
  · rw [force1, if_pos (by omega)]; exact hasB_refl ls
  · rw [force1, he, if_neg (by omega)]
    exact lay_hasB hr hl (optB_free hob)

theorem force1_domN {W T : Int} {cs : List Bool} {ds ls : List Int} (hr : regB W T cs = true) (hl : ls.length = cs.length) (hb : force1B W T cs ds ls = true) : domN (force1 W T cs ds ls) = domN ls + 1 := by
  rcases one_cases W T cs ds ls with h | ⟨k, hk, he, hc, hz, hol, hob, hw⟩
  · simp [force1B, h] at hb
  · rw [force1, he, if_neg (by omega)]
    exact domN_lay hr hl (optB_free hob)

theorem forceAllN_facts {W T : Int} {cs : List Bool} {ds : List Int} : ∀ (n : Nat) (ls : List Int), zeros ls ≤ n → fairB W T cs ds ls = true →
    fairB W T cs ds (forceAllN W T cs ds n ls) = true ∧ hasB ls (forceAllN W T cs ds n ls) = true ∧ force1B W T cs ds (forceAllN W T cs ds n ls) = false ∧
    ∀ p, solvedB W T cs ds p = true → hasB ls p = true → hasB (forceAllN W T cs ds n ls) p = true
  | 0, ls, hz, hf => by
    refine ⟨hf, hasB_refl ls, ?_, fun p _ h => h⟩
    cases hb : force1B W T cs ds (forceAllN W T cs ds 0 ls) with
    | false => rfl
    | true =>
      have := force1_zeros hb
      rw [forceAllN] at this
      omega
  | n + 1, ls, hz, hf => by
    rw [forceAllN]
    obtain ⟨hr, hd, hy, ho⟩ := fair_parts hf
    split
    · rename_i hb
      have hz2 := force1_zeros hb
      obtain ⟨i1, i2, i3, i4⟩ := forceAllN_facts n (force1 W T cs ds ls) (by omega) (force1_fair hf)
      exact ⟨i1, has_trans (by rw [force1_length]) (force1_has hr (lays_len hy)) i2, i3, fun p hp hs => i4 p hp (force1_sol hy hp hs)⟩
    · rename_i hb
      exact ⟨hf, hasB_refl ls, by simpa using hb, fun p _ h => h⟩

theorem forceAll_facts {W T : Int} {cs : List Bool} {ds ls : List Int} (hf : fairB W T cs ds ls = true) :
    fairB W T cs ds (forceAllI W T cs ds ls) = true ∧ hasB ls (forceAllI W T cs ds ls) = true ∧ force1B W T cs ds (forceAllI W T cs ds ls) = false ∧
    ∀ p, solvedB W T cs ds p = true → hasB ls p = true → hasB (forceAllI W T cs ds ls) p = true :=
  forceAllN_facts ls.length ls (zeros_le ls) hf

end Go.Proofs.Dev

namespace Go.Proofs
open Go.Shelf
namespace Dev

end Dev
end Go.Proofs

namespace Go.Proofs.Dev
set_option linter.unusedSimpArgs false
set_option maxRecDepth 100000

/-- All pairs, in ascending order. -/
def prL : List (Int × Int) := (List.range 7).flatMap fun a => (List.range' a (7 - a)).map fun b : Nat => ((a : Int), (b : Int))
/-- How many pairs have a lesser number below a. -/
def stN (a : Nat) : Nat := a * (15 - a) / 2

theorem stN_succ {a : Nat} (h : a < 7) : stN (a + 1) = stN a + (7 - a) ∧ stN a + (7 - a) ≤ 28 := by
  have : ∀ a < 7, stN (a + 1) = stN a + (7 - a) ∧ stN a + (7 - a) ≤ 28 := by decide
  exact this a h
theorem prL_at {a b : Nat} (h : a < 7) (hb : b < 7 - a) : prL[stN a + b]? = some ((a : Int), ((a + b : Nat) : Int)) := by
  have : ∀ a < 7, ∀ b < 7 - a, prL[stN a + b]? = some ((a : Int), ((a + b : Nat) : Int)) := by decide
  exact this a h b hb
end Go.Proofs.Dev
