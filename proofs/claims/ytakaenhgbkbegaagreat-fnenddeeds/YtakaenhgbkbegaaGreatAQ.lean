/- Contracts of the functions of the program over slots and rows, each proved against the program itself; no condition beyond those that each theorem names. -/
import Derived.Test.YtakaenhgbkbegaaGreatAP
import Derived.Test.YtakaenhgbkbegaaGreatAH
import Derived.Test.YtakaenhgbkbegaaGreatProg
import Derived.Test.YtakaenhgbkbegaaGreatAI
import Derived.Shelf.Bits.Mul64
import Derived.Ground.NamesProg
import Derived.Test.YtakaenhgbkbegaaGreatAK
import Derived.Test.YtakaenhgbkbegaaGreatAL
import Derived.Test.YtakaenhgbkbegaaGreatAM

set_option linter.unusedSimpArgs false
set_option linter.unusedVariables false

namespace Go.Proofs.Dev
set_option linter.unusedSimpArgs false
set_option maxRecDepth 100000

/-- Who takes ownership: each (140) of the list and of the closure, the closure (141) of all. -/
@[simp] def md2 (f : Nat) : List Bool := if f = 143 then [false, true, true] else if f = 144 then [true, true, true, true] else md0 f

/-- Those of some lists whose pairs are fair. -/
def keepT (W T : Int) (ds : List Int) (ps : List (List Int)) : List (List Int) := ps.filter fun t => onceB (pairsI W T ds t)
theorem keepT_one (W T : Int) (ds t : List Int) : keepT W T ds [t] = keepL W T ds t := by
  unfold keepT keepL
  cases h : onceB (pairsI W T ds t) <;> simp [h]
theorem keepT_append (W T : Int) (ds : List Int) (a b : List (List Int)) : keepT W T ds (a ++ b) = keepT W T ds a ++ keepT W T ds b := by simp [keepT]
theorem keepT_length (W T : Int) (ds : List Int) (a : List (List Int)) : (keepT W T ds a).length ≤ a.length := List.length_filter_le _ _

theorem s_impl_solutions_1F (W T : Int) (cs : List Bool) (ds t : List Int) (acc : List (List Int)) (hok : okB W T cs ds t = true) (ha : acc.length < 2 ^ 38) :
    SoundAt Tryz.prog n_impl_Region_solutions_1 [.os 1 (ints t), .op [.v (.int .i64 W), .v (.int .i64 T), .sl 0 1 (bools cs)], .op [.sl 0 1 (ints ds)], .op [.os 1 (oss acc)]]
      (.v (.bool true)) [.bot, .op [.v (.int .i64 W), .v (.int .i64 T), .sl 0 1 (bools cs)], .op [.sl 0 1 (ints ds)], .op [.os 1 (oss (acc ++ keepL W T ds t))]] := by
  refine fn_ok (md := md0) (ms := [false, true, true, true]) k_impl_Region_solutions_1 (by simp) ?_
  simp [c_impl_Region_solutions_1]
  refine call_on (s_impl_Region_fair W T cs ds t hok) ?_
  cases ho : onceB (pairsI W T ds t) with
  | false =>
    simp [keepL, ho]
  | true =>
    simp [keepL, ho]
    refine ⟨by omega, ?_⟩
    rw [oss_append, oss_one]
    exact List.take_of_length_le (by simp)

@[simp] theorem ints_getA (xs : List Int) (i : Nat) (h : i < (ints xs).length) : (ints xs)[i] = .v (.int .i64 (ati xs i)) := by
  have h2 : i < xs.length := by simpa using h
  simp [ints, ati, h2]

theorem ok141 : okFn Tryz.prog 144 = true := by kernel_rfl

/-- The rows and slots of each: what the closure holds, where the rows are numbered so. -/
def eachH (W T : Int) (cs : List Bool) (ds ls : List Int) (acc : List (List Int)) : Heap :=
  [some (.arr 1 (ints ls)), some (.box [.v (.int .i64 W), .v (.int .i64 T), .sl 0 1 (bools cs)]), some (.box [.sl 0 1 (ints ds)]), some (.box [.ls 1 5 0 acc.length]),
    some (.box [.v (.int .i64 W), .v (.int .i64 T), .sl 1 1 (bools cs)]), some (.arr 1 (oss acc))]
def eachH2 (W T : Int) (cs : List Bool) (ds ls : List Int) (acc : List (List Int)) : Heap :=
  [some (.arr 1 (ints ls)), some (.box [.v (.int .i64 W), .v (.int .i64 T), .sl 0 1 (bools cs)]), some (.box [.sl 0 1 (ints ds)]), some (.box [.ls 1 6 0 acc.length]),
    some (.box [.v (.int .i64 W), .v (.int .i64 T), .sl 1 1 (bools cs)]), some (.arr 1 [.v (.int .i64 1), .v (.int .i64 2)]), some (.arr 1 (oss acc))]

theorem each_of (W T : Int) (cs : List Bool) (ds : List Int) (hr : regB W T cs = true) (hd : digsB cs ds = true) (n : Nat)
    (ih : ∀ m, n = m + 1 → ∀ (ls : List Int) (acc : List (List Int)), zeros ls ≤ m → laysB W T cs ls = true → acc.length + 2 ^ m ≤ 2 ^ 37 →
      SoundAt Tryz.prog n_impl_Region_each [.agg [.v (.int .i64 W), .v (.int .i64 T), .sl 1 1 (bools cs)], .os 1 (ints ls), .fn 144 [.op [.v (.int .i64 W), .v (.int .i64 T), .sl 0 1 (bools cs)], .op [.sl 0 1 (ints ds)], .op [.os 1 (oss acc)]]]
        (.v (.bool true)) [.bot, .bot, .fn 144 [.op [.v (.int .i64 W), .v (.int .i64 T), .sl 0 1 (bools cs)], .op [.sl 0 1 (ints ds)], .op [.os 1 (oss (acc ++ keepT W T ds (allT W T cs m ls)))]]])
    (ls : List Int) (acc : List (List Int)) (hz : zeros ls ≤ n) (hy : laysB W T cs ls = true) (ha : acc.length + 2 ^ n ≤ 2 ^ 37) :
    SoundAt Tryz.prog n_impl_Region_each [.agg [.v (.int .i64 W), .v (.int .i64 T), .sl 1 1 (bools cs)], .os 1 (ints ls), .fn 144 [.op [.v (.int .i64 W), .v (.int .i64 T), .sl 0 1 (bools cs)], .op [.sl 0 1 (ints ds)], .op [.os 1 (oss acc)]]]
      (.v (.bool true)) [.bot, .bot, .fn 144 [.op [.v (.int .i64 W), .v (.int .i64 T), .sl 0 1 (bools cs)], .op [.sl 0 1 (ints ds)], .op [.os 1 (oss (acc ++ keepT W T ds (allT W T cs n ls)))]]] := by
  have h36 := regB_len hr
  have hl : ls.length = cs.length := by simp only [laysB, Bool.and_eq_true, decide_eq_true_eq] at hy; exact hy.1
  have hok : okB W T cs ds ls = true := by simp only [okB, hr, hd, hy, Bool.and_self]
  have hp : 0 < 2 ^ n := Nat.pow_pos (by omega)
  have hac : acc.length < 2 ^ 38 := Nat.lt_of_le_of_lt (Nat.le_trans (Nat.le_add_right _ _) ha) (by decide)
  refine fn_ok (md := md2) (ms := [false, false, true]) k_impl_Region_each (by simp) ?_
  simp [c_impl_Region_each]
  refine loop_by (fun m E H => ∃ i : Nat, m = ls.length - i ∧ i ≤ ls.length ∧ (∀ j : Nat, j < i → bareB cs ls j = false) ∧ H = eachH W T cs ds ls acc ∧
    E = [(1, .ls 1 0 0 ls.length), (2, .fn 144 [.lp 0 1 0 0, .lp 0 2 0 0, .lp 0 3 0 0]), (3, .lp 0 4 0 0), (7, .v (.int .i64 i)), (63, .fn 144 [.lp 0 1 0 0, .lp 0 2 0 0, .lp 0 3 0 0])]) ls.length ⟨0, by simp [eachH]⟩ ?_
  rintro J hJ m E H ⟨i, rfl, hi, hb, rfl, rfl⟩
  by_cases h : i < ls.length
  case neg =>
    have hi' : i = ls.length := by omega
    subst hi'
    have he : bareI cs ls = -1 := firstI_none hb
    simp [c_impl_Region_each_L0, eachH]
    refine ⟨ok141, call_on (s_impl_solutions_1F W T cs ds ls acc hok hac) ?_⟩
    simp [allT_leaf n (show bareI cs ls < 0 by omega), keepT_one]
    exact List.take_of_length_le (by simp)
  have next : bareB cs ls i = false → again J (ls.length - i) [(1, .ls 1 0 0 ls.length), (2, .fn 144 [.lp 0 1 0 0, .lp 0 2 0 0, .lp 0 3 0 0]), (3, .lp 0 4 0 0), (7, .v (.int .i64 (i + 1))), (63, .fn 144 [.lp 0 1 0 0, .lp 0 2 0 0, .lp 0 3 0 0])]
      (eachH W T cs ds ls acc) := by
    intro hx
    refine ⟨_, by omega, hJ _ _ _ ⟨i + 1, rfl, h, ?_, rfl, rfl⟩⟩
    intro j hj
    rcases Nat.lt_or_ge j i with h1 | h1
    · exact hb j h1
    · have : j = i := by omega
      subst this; exact hx
  have h2 : i < cs.length := by omega
  cases hc : atb cs i with
  | false =>
    have nx := next (by simp [bareB, hc])
    simp [eachH] at nx
    simp [c_impl_Region_each_L0, eachH, h, h2, hc]
    exact ⟨by omega, nx⟩
  | true =>
  by_cases z : ati ls i = 0
  case neg =>
    have nx := next (by simp [bareB, z])
    simp [eachH] at nx
    simp [c_impl_Region_each_L0, eachH, h, h2, hc, z]
    exact ⟨by omega, nx⟩
  have he : bareI cs ls = i := firstI_hit h (by simp [bareB, hc, z]) hb
  have hzp := zeros_pos h z
  obtain ⟨n', rfl⟩ : ∃ n', n = n' + 1 := ⟨n - 1, by omega⟩
  have hk0 : ¬ (i : Int) < 0 := by omega
  have hall : allT W T cs (n' + 1) ls = accT W T cs n' ls i 2 := by
    rw [allT, he, if_neg hk0]
    simp [accT, partT, List.range_succ]
  rw [hall]
  have hne : ¬ ((i : Int) = ls.length) := by omega
  simp [c_impl_Region_each_L0, eachH, h, h2, hc, z, hne]
  have b1 := accT_length W T cs n' ls i
  have hpow : 2 ^ (n' + 1) = 2 * 2 ^ n' := by rw [Nat.pow_succ]; omega
  refine loop_by (fun m E H => ∃ j : Nat, m = 2 - j ∧ j ≤ 2 ∧ H = eachH2 W T cs ds ls (acc ++ keepT W T ds (accT W T cs n' ls i j)) ∧
    E = [(1, .ls 1 0 0 ls.length), (2, .fn 144 [.lp 0 1 0 0, .lp 0 2 0 0, .lp 0 3 0 0]), (3, .lp 0 4 0 0), (7, .v (.int .i64 i)), (38, .ls 1 5 0 2), (39, .v (.int .i64 2)), (40, .v (.int .i64 j)), (63, .fn 144 [.lp 0 1 0 0, .lp 0 2 0 0, .lp 0 3 0 0])]) 2 ⟨0, by simp [eachH2, accT, keepT]⟩ ?_
  rintro J2 hJ2 m2 E2 H2 ⟨j, rfl, hj, rfl, rfl⟩
  by_cases h3 : j < 2
  case neg =>
    have : j = 2 := by omega
    subst this
    simp [c_impl_Region_each_L1, eachH2]
    exact List.take_of_length_le (by simp)
  have h01 : j = 0 ∨ j = 1 := by omega
  rcases h01 with rfl | rfl
  · have hsuc : accT W T cs n' ls i (0 + 1) = accT W T cs n' ls i 0 ++ partT W T cs n' ls i 1 := by simpa using accT_succ W T cs n' ls i 0
    have bl := b1 0
    have kl := keepT_length W T ds (accT W T cs n' ls i 0)
    have hlen : (acc ++ keepT W T ds (accT W T cs n' ls i 0)).length + 2 ^ n' ≤ 2 ^ 37 := by rw [List.length_append]; omega
    have next2 : ∀ x, partT W T cs n' ls i 1 = x → again J2 (2 - 0) [(1, .ls 1 0 0 ls.length), (2, .fn 144 [.lp 0 1 0 0, .lp 0 2 0 0, .lp 0 3 0 0]), (3, .lp 0 4 0 0), (7, .v (.int .i64 i)), (38, .ls 1 5 0 2), (39, .v (.int .i64 2)), (40, .v (.int .i64 1)), (63, .fn 144 [.lp 0 1 0 0, .lp 0 2 0 0, .lp 0 3 0 0])]
        (eachH2 W T cs ds ls ((acc ++ keepT W T ds (accT W T cs n' ls i 0)) ++ keepT W T ds x)) := by
      rintro x rfl
      refine ⟨_, by omega, hJ2 _ _ _ ⟨0 + 1, rfl, by omega, ?_, rfl⟩⟩
      rw [hsuc, keepT_append, List.append_assoc]
    generalize hA : acc ++ keepT W T ds (accT W T cs n' ls i 0) = A at *
    simp [c_impl_Region_each_L1, eachH2]
    refine call_on (s_impl_Region_free W T cs ls i 1 hr hl) ?_
    cases hf : freeB W T cs ls i 1 with
    | false =>
      have nx := next2 [] (by simp [partT, hf])
      simp [eachH2, keepT] at nx
      simp
      exact nx
    | true =>
      have nx := next2 (allT W T cs n' (layI W T ls i 1)) (by simp [partT, hf])
      have hzl : zeros (layI W T ls i 1) < zeros ls := lay_zeros h z (by omega) (by omega)
      have rcr := ih n' rfl (layI W T ls i 1) A (by omega) (lay_ok hr hy hf) hlen
      have hll := layI_length W T ls i 1
      simp [eachH2] at nx
      simp
      (repeat' first | assumption | omega | apply And.intro) <;>
      · refine call_on (s_impl_Region_lay W T cs ls i 1 hr hl hf) ?_
        simp [hll]
        (repeat' first | assumption | omega | apply And.intro) <;>
        · refine call_on rcr ?_
          simp [hll]
          exact nx
  · have hsuc : accT W T cs n' ls i (1 + 1) = accT W T cs n' ls i 1 ++ partT W T cs n' ls i 2 := by simpa using accT_succ W T cs n' ls i 1
    have bl := b1 1
    have kl := keepT_length W T ds (accT W T cs n' ls i 1)
    have hlen : (acc ++ keepT W T ds (accT W T cs n' ls i 1)).length + 2 ^ n' ≤ 2 ^ 37 := by rw [List.length_append]; omega
    have next2 : ∀ x, partT W T cs n' ls i 2 = x → again J2 (2 - 1) [(1, .ls 1 0 0 ls.length), (2, .fn 144 [.lp 0 1 0 0, .lp 0 2 0 0, .lp 0 3 0 0]), (3, .lp 0 4 0 0), (7, .v (.int .i64 i)), (38, .ls 1 5 0 2), (39, .v (.int .i64 2)), (40, .v (.int .i64 2)), (63, .fn 144 [.lp 0 1 0 0, .lp 0 2 0 0, .lp 0 3 0 0])]
        (eachH2 W T cs ds ls ((acc ++ keepT W T ds (accT W T cs n' ls i 1)) ++ keepT W T ds x)) := by
      rintro x rfl
      refine ⟨_, by omega, hJ2 _ _ _ ⟨1 + 1, rfl, by omega, ?_, rfl⟩⟩
      rw [hsuc, keepT_append, List.append_assoc]
    generalize hA : acc ++ keepT W T ds (accT W T cs n' ls i 1) = A at *
    simp [c_impl_Region_each_L1, eachH2]
    refine call_on (s_impl_Region_free W T cs ls i 2 hr hl) ?_
    cases hf : freeB W T cs ls i 2 with
    | false =>
      have nx := next2 [] (by simp [partT, hf])
      simp [eachH2, keepT] at nx
      simp
      exact nx
    | true =>
      have nx := next2 (allT W T cs n' (layI W T ls i 2)) (by simp [partT, hf])
      have hzl : zeros (layI W T ls i 2) < zeros ls := lay_zeros h z (by omega) (by omega)
      have rcr := ih n' rfl (layI W T ls i 2) A (by omega) (lay_ok hr hy hf) hlen
      have hll := layI_length W T ls i 2
      simp [eachH2] at nx
      simp
      (repeat' first | assumption | omega | apply And.intro) <;>
      · refine call_on (s_impl_Region_lay W T cs ls i 2 hr hl hf) ?_
        simp [hll]
        (repeat' first | assumption | omega | apply And.intro) <;>
        · refine call_on rcr ?_
          simp [hll]
          exact nx

theorem s_impl_each (W T : Int) (cs : List Bool) (ds : List Int) (hr : regB W T cs = true) (hd : digsB cs ds = true) : ∀ (n : Nat) (ls : List Int) (acc : List (List Int)), zeros ls ≤ n → laysB W T cs ls = true → acc.length + 2 ^ n ≤ 2 ^ 37 →
    SoundAt Tryz.prog n_impl_Region_each [.agg [.v (.int .i64 W), .v (.int .i64 T), .sl 1 1 (bools cs)], .os 1 (ints ls), .fn 144 [.op [.v (.int .i64 W), .v (.int .i64 T), .sl 0 1 (bools cs)], .op [.sl 0 1 (ints ds)], .op [.os 1 (oss acc)]]]
      (.v (.bool true)) [.bot, .bot, .fn 144 [.op [.v (.int .i64 W), .v (.int .i64 T), .sl 0 1 (bools cs)], .op [.sl 0 1 (ints ds)], .op [.os 1 (oss (acc ++ keepT W T ds (allT W T cs n ls)))]]] := by
  intro n
  induction n with
  | zero => intro ls acc h1 h2 h3; exact each_of W T cs ds hr hd 0 (fun m h => by omega) ls acc h1 h2 h3
  | succ n ih =>
    intro ls acc h1 h2 h3
    refine each_of W T cs ds hr hd (n + 1) (fun m h => ?_) ls acc h1 h2 h3
    have : m = n := by omega
    subst this
    exact ih

end Go.Proofs.Dev

namespace Go.Proofs.Dev

-- 1 parameters, results [.t 2], 9 slots, modes [true]
@[simp] abbrev n_slices_Clip_ints : Nat := 145

def c_slices_Clip_ints : ACode := .seq (.reg [.o 2 .mv [.c (.os 1 [])]]) <| .seq (.reg [.m 3 0, .m 4 0, .n 5 4, .m 6 0, .n 7 6,
 .o 8 (.slice 1 false false true true) [.t 3, .t 5, .t 7], .m 2 8]) <| .ret

theorem k_slices_Clip_ints : cFn Tryz.prog n_slices_Clip_ints 9 [.t 2] c_slices_Clip_ints := ⟨Tryz.f145, _, Tryz.func145, rfl, by kernel_rfl, by kernel_rfl, by kernel_rfl, by kernel_rfl⟩

-- 3 parameters, results [.t 6, .t 7], 19 slots, modes [false, false, false]
@[simp] abbrev n_impl_Region_solve : Nat := 110

def c_impl_Region_solve : ACode := .seq (.reg [.o 3 .box [.t 0], .o 6 .mv [.c (.os 1 [])], .o 7 .mv [.kb false]]) <| .seq (.reg [.la 9 3 3, .m 10 1, .m 11 2,
 .o 12 (.call 100 []) [.t 9, .t 10, .t 11], .m 8 12]) <| .seq (.seq (.reg [.m 13 8, .n 14 13, .o 15 (.bin .eql 0) [.t 14, .k 0]]) <|
 .cond (.t 15) ( .seq (.reg [.o 6 .mv [.c (.os 1 [])], .o 7 .mv [.kb false]]) <| .ret) ( .skip)) <| .seq (.own [(.op, .m 16 8), (.op, .o 17 (.iadr 1) [.t 16,
 .k 0]), (.take, .l 18 17), (.op, .m 6 18), (.op, .o 7 .mv [.kb true])]) <| .ret

theorem k_impl_Region_solve : cFn Tryz.prog n_impl_Region_solve 19 [.t 6, .t 7] c_impl_Region_solve := ⟨Tryz.f110, _, Tryz.func110, rfl, by kernel_rfl, by kernel_rfl, by kernel_rfl, by kernel_rfl⟩

-- 3 parameters, results [.t 6, .t 7], 19 slots, modes [false, false, false]
@[simp] abbrev n_impl_SolveFirst : Nat := 52

def c_impl_SolveFirst : ACode := .seq (.reg [.o 3 .box [.t 0], .o 6 .mv [.c (.os 1 [])], .o 7 .mv [.kb false]]) <| .seq (.seq (.reg [.la 8 3 3, .m 9 1, .m 10 2,
 .o 11 (.call 47 []) [.t 8, .t 9, .t 10], .o 12 (.un .not) [.t 11]]) <| .cond (.t 12) ( .seq (.reg [.o 6 .mv [.c (.os 1 [])], .o 7 .mv [.kb false]]) <|
 .ret) ( .skip)) <| .seq (.reg [.la 13 3 3, .m 14 1, .m 15 2, .o 16 (.call 110 []) [.t 13, .t 14, .t 15], .e 17 0 16, .e 18 1 16, .m 6 17, .m 7 18]) <| .ret

theorem k_impl_SolveFirst : cFn Tryz.prog n_impl_SolveFirst 19 [.t 6, .t 7] c_impl_SolveFirst := ⟨Tryz.f52, _, Tryz.func52, rfl, by kernel_rfl, by kernel_rfl, by kernel_rfl, by kernel_rfl⟩

-- 3 parameters, results [.t 6, .t 7], 61 slots, modes [false, false, false]
@[simp] abbrev n_spec_SolveFirst : Nat := 109
abbrev c_spec_SolveFirst_L0_p0 : Plan := .take (.g 52 (.bin .eql 0) [.t 47, .t 51] 40 false) <| .take (.g 53 .pick [.t 40, .kb true, .t 52] 34 true) <| .take (.o 54 .pick [.t 34, .t 53, .kb false]) <| .take (.m 10 54) <| .done
def c_spec_SolveFirst_L0 : ACode := .seq (.seq (.reg [.m 27 11, .m 28 2, .n 29 28, .o 30 (.bin .lss 0) [.t 27, .t 29]]) <| .cond (.t 30) ( .skip) ( .exit 2)) <|
 .seq (.block 3 ( .draw ( .take (.m 33 10) <| .take (.m 34 33) <| .take (.mg 35 2 34 true) <| .take (.mg 36 11 34 true) <| .take (.g 37 (.iadr 1) [.t 35,
 .t 36] 34 true) <| .al (.lg 38 37 34 true) ( .take (.g 39 (.bin .eql 0) [.t 38, .k 0] 34 true) <| .take (.mg 40 39 34 true) <| .take (.mg 41 8 40 false) <|
 .take (.mg 42 9 40 false) <| .take (.g 43 (.iadr 1) [.t 41, .t 42] 40 false) <| .take (.mg 45 11 40 false) <| .take (.mg 48 2 40 false) <|
 .take (.mg 49 11 40 false) <| .take (.g 50 (.iadr 1) [.t 48, .t 49] 40 false) <| .alt (.lg 44 43 40 false) ( .take (.g 46 (.iadr 1) [.t 44, .t 45] 40 false) <|
 .alt (.lg 47 46 40 false) ( .al (.lg 51 50 40 false) c_spec_SolveFirst_L0_p0) <|
 .al (.lg 51 50 40 false) ( .al (.lg 47 46 40 false) c_spec_SolveFirst_L0_p0)) <|
 .al (.lg 51 50 40 false) ( .al (.lg 44 43 40 false) ( .take (.g 46 (.iadr 1) [.t 44, .t 45] 40 false) <|
 .al (.lg 47 46 40 false) c_spec_SolveFirst_L0_p0)))))) <| .reg [.m 31 11, .o 32 (.bin .add 0) [.t 31, .k 1], .m 11 32]

def c_spec_SolveFirst_L1 : ACode := .seq (.seq (.reg [.m 15 9, .m 16 8, .n 17 16, .o 18 (.bin .lss 0) [.t 15, .t 17], .m 19 18,
 .g 20 (.load true 3) [.t 3] 19 true, .mg 21 1 19 true, .mg 22 2 19 true, .g 23 (.call 85 []) [.t 20, .t 21, .t 22] 19 true, .o 24 .pick [.t 19, .t 23,
 .kb false]]) <| .cond (.t 24) ( .skip) ( .exit 0)) <| .seq (.block 1 ( .seq (.reg [.o 10 .mv [.kb true]]) <| .seq (.seq (.reg [.o 11 .mv [.k 0]]) <|
 .block 2 ( .loop [(1, 1), (2, 1), (8, 1)] [1, 2, 3, 8, 9, 10, 11] c_spec_SolveFirst_L0)) <| .seq (.reg [.m 55 10]) <| .cond (.t 55) ( .seq (.reg [.m 56 8,
 .m 57 9, .o 58 (.iadr 1) [.t 56, .t 57], .l 59 58, .m 6 59, .o 7 .mv [.kb true]]) <| .ret) ( .skip))) <| .reg [.m 25 9, .o 26 (.bin .add 0) [.t 25, .k 1],
 .m 9 26]

def c_spec_SolveFirst : ACode := .seq (.reg [.o 3 .box [.t 0], .o 6 .mv [.c (.os 1 [])], .o 7 .mv [.kb false]]) <| .seq (.reg [.la 12 3 3, .m 13 1,
 .o 14 (.call 154 []) [.t 12, .t 13], .m 8 14]) <| .seq (.seq (.reg [.o 9 .mv [.k 0]]) <| .block 0 ( .loop [(1, 1), (2, 1), (8, 1)] [1, 2, 3, 8,
 9] c_spec_SolveFirst_L1)) <| .seq (.reg [.o 60 (.bsl 1) [], .m 6 60, .o 7 .mv [.kb false]]) <| .ret

theorem k_spec_SolveFirst : cFn Tryz.prog n_spec_SolveFirst 61 [.t 6, .t 7] c_spec_SolveFirst := ⟨Tryz.f109, _, Tryz.func109, rfl, by kernel_rfl, by kernel_rfl, by kernel_rfl, by kernel_rfl⟩

end Go.Proofs.Dev

namespace Go.Proofs.Dev
set_option linter.unusedSimpArgs false
set_option maxRecDepth 100000

theorem noVL_ints : ∀ xs : List Int, noVL (ints xs) = true
  | [] => by simp [noVL]
  | x :: xs => by show (noV (.v (.int .i64 x)) && noVL (ints xs)) = true; rw [noVL_ints xs]; simp [noV]
theorem noVL_oss : ∀ ps : List (List Int), noVL (oss ps) = true
  | [] => by simp [noVL]
  | p :: ps => by show (noV (.os 1 (ints p)) && noVL (oss ps)) = true; rw [noVL_oss ps]; simp [noV, noVL_ints]

theorem s_slices_Clip_ints (ps : List (List Int)) : SoundAt Tryz.prog n_slices_Clip_ints [.os 1 (oss ps)] (.os 1 (oss ps)) [.bot] := by
  refine fn_ok (md := md0) (ms := [false]) k_slices_Clip_ints (by simp) ?_
  simp [c_slices_Clip_ints]

theorem s_impl_Region_solutions0 (W T : Int) (cs : List Bool) (ds ls : List Int) (hok : okB W T cs ds ls = true) :
    SoundAt Tryz.prog n_impl_Region_solutions [.agg [.v (.int .i64 W), .v (.int .i64 T), .sl 0 1 (bools cs)], .sl 0 1 (ints ds), .sl 0 1 (ints ls)] (.os 1 (oss (keepT W T ds (allT W T cs cs.length ls)))) [.bot, .bot, .bot] := by
  refine fn_ok (md := md2) (ms := [false, false, false]) k_impl_Region_solutions (by simp) ?_
  have hok' := hok
  simp only [okB, Bool.and_eq_true] at hok'
  obtain ⟨hr, hd, hy⟩ := hok'
  have h36 := regB_len hr
  have hl := lays_len hy
  have hz : zeros ls ≤ cs.length := by have := zeros_le ls; omega
  have hpow : 2 ^ cs.length ≤ 2 ^ 36 := Nat.pow_le_pow_right (by omega) h36
  have each := s_impl_each W T cs ds hr hd cs.length ls [] hz hy (by simp only [List.length_nil, Nat.zero_add]; exact Nat.le_trans hpow (by decide))
  rw [oss_nil, List.nil_append] at each
  simp [c_impl_Region_solutions]
  (repeat' first | assumption | omega | apply And.intro) <;>
  · refine call_on (s_impl_clone_int ls (by omega)) ?_
    simp
    (repeat' first | assumption | omega | apply And.intro) <;>
    · refine call_on each ?_
      simp [c_impl_Region_solutions_T0]
      refine call_on (s_slices_Clip_ints (keepT W T ds (allT W T cs cs.length ls))) ?_
      simp

theorem s_impl_Region_solutions (W T : Int) (cs : List Bool) (ds ls : List Int) (hok : okB W T cs ds ls = true) :
    SoundAt Tryz.prog n_impl_Region_solutions [.agg [.v (.int .i64 W), .v (.int .i64 T), .sl 1 1 (bools cs)], .sl 1 1 (ints ds), .sl 1 1 (ints ls)] (.os 1 (oss (keepT W T ds (allT W T cs cs.length ls)))) [.bot, .bot, .bot] := by
  refine SoundAt.lift (n := 3) (fun C S us hr => noOL_ok _ S us rfl hr) (by simp [noV, noVL_oss]) ?_
  have h := s_impl_Region_solutions0 W T cs ds ls hok
  simpa [vwL, vw] using h

/-- The first solution with the dominoes of a fair list. -/
def firstHas (W T : Int) (cs : List Bool) (ds ls : List Int) : Option (List Int) := if fairB W T cs ds ls then (solsI W T cs ds).find? (hasB ls) else none
def resF : Option (List Int) → AV
  | some x => .tup [.sl 0 1 (ints x), .v (.bool true)]
  | none => .tup [.os 1 [], .v (.bool false)]
def resO : Option (List Int) → AV
  | some x => .tup [.os 1 (ints x), .v (.bool true)]
  | none => .tup [.os 1 [], .v (.bool false)]

theorem sols_len {W T : Int} {cs : List Bool} {ds p : List Int} (h : p ∈ solsI W T cs ds) : p.length = cs.length := by
  unfold solsI at h
  split at h
  · exact tiles_mem (List.mem_filter.1 h).1
  · cases h

theorem sols_length {W T : Int} {cs : List Bool} {ds : List Int} : (solsI W T cs ds).length ≤ 68719476736 := by
  unfold solsI
  split
  · exact Nat.le_trans (List.length_filter_le _ _) tiles_length
  · simp

theorem find_pti {ps : List (List Int)} {p : List Int → Bool} {i : Nat} (h : i < ps.length) (ha : ∀ j : Nat, j < i → p (pti ps j) = false) (hp : p (pti ps i) = true) : ps.find? p = some (pti ps i) := by
  rw [List.find?_eq_some_iff_getElem]
  refine ⟨hp, i, h, (pti_get h).symm, fun j hj => ?_⟩
  have h2 := ha j hj
  rw [pti_get (by omega)] at h2
  simp [h2]
theorem find_none {ps : List (List Int)} {p : List Int → Bool} (ha : ∀ j : Nat, j < ps.length → p (pti ps j) = false) : ps.find? p = none := by
  rw [List.find?_eq_none]
  intro x hx
  obtain ⟨j, hj, rfl⟩ := List.getElem_of_mem hx
  have h2 := ha j hj
  rw [pti_get hj] at h2
  simp [h2]

def hasTo (ls p : List Int) (n : Nat) : Bool := allB n fun k => decide (ati ls k = 0) || decide (ati p k = ati ls k)
theorem hasTo_succ (ls p : List Int) (n : Nat) : hasTo ls p (n + 1) = (hasTo ls p n && (decide (ati ls n = 0) || decide (ati p n = ati ls n))) := by simp [hasTo, allB_succ]
theorem hasTo_all (ls p : List Int) : hasTo ls p ls.length = hasB ls p := rfl

theorem s_spec_SolutionsAllF (W T : Int) (cs : List Bool) (ds : List Int) (hb : cs.length < 2 ^ 40) (hd : ds.length < 2 ^ 40) :
    SoundAt Tryz.prog n_spec_SolutionsAll [.agg [.v (.int .i64 W), .v (.int .i64 T), .sl 1 1 (bools cs)], .sl 1 1 (ints ds)] (.sl 0 1 (sls 0 (solsI W T cs ds))) [.bot, .bot] := by
  have h := SoundAt.frozen (n := 2) (fun C S us hr => noOL_ok _ S us rfl hr) (s_spec_SolutionsAll W T cs ds hb hd)
  simpa [vw] using h

theorem s_spec_SolveFirst (W T : Int) (cs : List Bool) (ds ls : List Int) (hb : cs.length < 2 ^ 40) (hd : ds.length < 2 ^ 40) (hl : ls.length < 2 ^ 40) :
    SoundAt Tryz.prog n_spec_SolveFirst [.agg [.v (.int .i64 W), .v (.int .i64 T), .sl 1 1 (bools cs)], .sl 1 1 (ints ds), .sl 1 1 (ints ls)] (resF (firstHas W T cs ds ls)) [.bot, .bot, .bot] := by
  refine fn_ok (md := md0) (ms := [false, false, false]) k_spec_SolveFirst (by simp) ?_
  simp [c_spec_SolveFirst]
  refine call_on (s_spec_SolutionsAllF W T cs ds hb hd) ?_
  simp
  refine loop_by (fun m E H => ∃ i : Nat, m = (solsI W T cs ds).length - i ∧ i ≤ (solsI W T cs ds).length ∧ (∀ j : Nat, j < i → hasB ls (pti (solsI W T cs ds) j) = false) ∧ H = [some (.box [.v (.int .i64 W), .v (.int .i64 T), .sl 1 1 (bools cs)])] ∧
    E = [(1, .sl 1 1 (ints ds)), (2, .sl 1 1 (ints ls)), (3, .lp 0 0 0 0), (8, .sl 0 1 (sls 0 (solsI W T cs ds))), (9, .v (.int .i64 i))]) (solsI W T cs ds).length ⟨0, by simp⟩ ?_
  rintro J hJ m E H ⟨i, rfl, hi, ha, rfl, rfl⟩
  by_cases h : i < (solsI W T cs ds).length
  case neg =>
    have e : firstHas W T cs ds ls = none := by
      unfold firstHas; split
      · exact find_none fun j hj => ha j (by omega)
      · rfl
    have hi' : i = (solsI W T cs ds).length := by omega
    simp [c_spec_SolveFirst_L1, e, resF, hi']
  simp [c_spec_SolveFirst_L1, h]
  refine call_on (s_spec_FairOk W T cs ds ls hb hd hl) ?_
  cases hf : fairB W T cs ds ls with
  | false =>
    have e : firstHas W T cs ds ls = none := by simp [firstHas, hf]
    simp [e, resF]
  | true =>
  obtain ⟨hr, e1, e2, _⟩ := okB_W (fairB_ok hf)
  have hpl : (pti (solsI W T cs ds) i).length = cs.length := sols_len (pti_mem h)
  simp
  refine loop_by (fun m E H => ∃ j : Nat, m = ls.length - j ∧ j ≤ ls.length ∧ H = [some (.box [.v (.int .i64 W), .v (.int .i64 T), .sl 1 1 (bools cs)])] ∧
    E = [(1, .sl 1 1 (ints ds)), (2, .sl 1 1 (ints ls)), (3, .lp 0 0 0 0), (8, .sl 0 1 (sls 0 (solsI W T cs ds))), (9, .v (.int .i64 i)), (10, .v (.bool (hasTo ls (pti (solsI W T cs ds) i) j))), (11, .v (.int .i64 j))]) ls.length ⟨0, by simp [hasTo, allB_zero]⟩ ?_
  rintro J2 hJ2 m2 E2 H2 ⟨j, rfl, hj, rfl, rfl⟩
  by_cases h2 : j < ls.length
  case neg =>
    have hj' : j = ls.length := by omega
    subst hj'
    rw [hasTo_all]
    cases hh : hasB ls (pti (solsI W T cs ds) i) with
    | true =>
      have e : firstHas W T cs ds ls = some (pti (solsI W T cs ds) i) := by
        unfold firstHas
        rw [if_pos hf]
        exact find_pti h ha hh
      simp [c_spec_SolveFirst_L0, e, resF, h]
    | false =>
      simp [c_spec_SolveFirst_L0]
      refine ⟨by have := sols_length (W := W) (T := T) (cs := cs) (ds := ds); omega, ?_⟩
      refine ⟨_, by omega, hJ _ _ _ ⟨i + 1, rfl, h, ?_, rfl, rfl⟩⟩
      intro k hk
      rcases Nat.lt_or_ge k i with h1 | h1
      · exact ha k h1
      · have : k = i := by omega
        subst this; exact hh
  have hs := hasTo_succ ls (pti (solsI W T cs ds) i) j
  have next : ∀ b : Bool, hasTo ls (pti (solsI W T cs ds) i) (j + 1) = b → again J2 (ls.length - j) [(1, .sl 1 1 (ints ds)), (2, .sl 1 1 (ints ls)), (3, .lp 0 0 0 0), (8, .sl 0 1 (sls 0 (solsI W T cs ds))), (9, .v (.int .i64 i)), (10, .v (.bool b)), (11, .v (.int .i64 (j + 1)))]
      [some (.box [.v (.int .i64 W), .v (.int .i64 T), .sl 1 1 (bools cs)])] := by
    rintro b rfl
    exact ⟨_, by omega, hJ2 _ _ _ ⟨j + 1, rfl, h2, rfl, rfl⟩⟩
  have hjp : j < (pti (solsI W T cs ds) i).length := by omega
  cases hh : hasTo ls (pti (solsI W T cs ds) i) j with
  | false =>
    have n := next false (by rw [hs, hh]; rfl)
    simp [c_spec_SolveFirst_L0, h2]
    exact ⟨by omega, n⟩
  | true =>
  by_cases z : ati ls j = 0
  · have n := next true (by rw [hs, hh, z]; rfl)
    simp [c_spec_SolveFirst_L0, h2, z]
    exact ⟨by omega, n⟩
  by_cases ez : ati (pti (solsI W T cs ds) i) j = ati ls j
  · have n := next true (by rw [hs, hh, ez]; simp)
    simp [c_spec_SolveFirst_L0, h2, z, h, hjp, ez]
    exact ⟨by omega, n⟩
  · have n := next (ati (pti (solsI W T cs ds) i) j == ati ls j) (by rw [hs, hh]; simp [z, ez])
    simp [c_spec_SolveFirst_L0, h2, z, h, hjp]
    exact ⟨by omega, n⟩

theorem s_impl_Region_solve (W T : Int) (cs : List Bool) (ds ls : List Int) (hok : okB W T cs ds ls = true) :
    SoundAt Tryz.prog n_impl_Region_solve [.agg [.v (.int .i64 W), .v (.int .i64 T), .sl 1 1 (bools cs)], .sl 1 1 (ints ds), .sl 1 1 (ints ls)] (resO ((solsI W T cs ds).find? (hasB ls))) [.bot, .bot, .bot] := by
  refine fn_ok (md := md0) (ms := [false, false, false]) k_impl_Region_solve (by simp) ?_
  simp [c_impl_Region_solve]
  refine call_on (s_impl_Region_solutions W T cs ds ls hok) ?_
  have e : keepT W T ds (allT W T cs cs.length ls) = (solsI W T cs ds).filter (hasB ls) := sols_has hok
  rw [← List.head?_filter, ← e]
  cases hp : keepT W T ds (allT W T cs cs.length ls) with
  | nil => simp [resO]
  | cons p ps =>
    have h0 : ¬ ((ps.length : Int) + 1 = 0) := by omega
    simp [resO, h0]
    refine awpT_take rfl rfl rfl ?_
    intro u
    simp [takeH]

theorem s_impl_SolveFirst (W T : Int) (cs : List Bool) (ds ls : List Int) (hb : cs.length < 2 ^ 40) (hd : ds.length < 2 ^ 40) (hl : ls.length < 2 ^ 40) :
    SoundAt Tryz.prog n_impl_SolveFirst [.agg [.v (.int .i64 W), .v (.int .i64 T), .sl 1 1 (bools cs)], .sl 1 1 (ints ds), .sl 1 1 (ints ls)] (resO (firstHas W T cs ds ls)) [.bot, .bot, .bot] := by
  refine fn_ok (md := md0) (ms := [false, false, false]) k_impl_SolveFirst (by simp) ?_
  simp [c_impl_SolveFirst]
  refine call_on (s_impl_FairOk W T cs ds ls hb hd hl) ?_
  cases hf : fairB W T cs ds ls with
  | false => simp [firstHas, hf, resO]
  | true =>
  simp
  refine call_on (s_impl_Region_solve W T cs ds ls (fairB_ok hf)) ?_
  have e : firstHas W T cs ds ls = (solsI W T cs ds).find? (hasB ls) := by simp [firstHas, hf]
  rw [e]
  cases hr : (solsI W T cs ds).find? (hasB ls) with
  | none => simp [resO]
  | some x => simp [resO]

end Go.Proofs.Dev

namespace Go.Proofs.Dev
set_option linter.unusedSimpArgs false
set_option maxRecDepth 100000

theorem firstHas_some {W T : Int} {cs : List Bool} {ds ls x : List Int} (h : firstHas W T cs ds ls = some x) : fairB W T cs ds ls = true ∧ x.length = cs.length := by
  unfold firstHas at h
  split at h
  · rename_i hf
    exact ⟨hf, sols_len (List.mem_of_find?_eq_some h)⟩
  · cases h

end Go.Proofs.Dev

namespace Go.Proofs.Dev
set_option linter.unusedSimpArgs false

/-- What has the dominoes of a list has their pairs. -/
theorem pairs_sub {W T : Int} {ds a b : List Int} (hl : a.length = b.length) (h : ∀ k : Nat, k < a.length → ati a k = 0 ∨ ati b k = ati a k) : List.Sublist (pairsI W T ds a) (pairsI W T ds b) := by
  have : ∀ n, n ≤ a.length → List.Sublist (pairsTo W T ds a n) (pairsTo W T ds b n) := by
    intro n
    induction n with
    | zero => intro _; simp [pairsTo]
    | succ n ih =>
      intro hn
      rw [pairsTo_succ, pairsTo_succ]
      rcases h n (by omega) with h0 | h0
      · rw [if_neg (by omega)]
        exact (ih (by omega)).append (List.nil_sublist _)
      · rw [h0]
        exact (ih (by omega)).append (List.Sublist.refl _)
  have e := this a.length (Nat.le_refl _)
  unfold pairsI
  rw [← hl]; exact e

theorem once_sub {a b : List Int} (h : List.Sublist a b) (hb : onceB b = true) : onceB a = true := by
  simp only [onceB, decide_eq_true_eq] at hb ⊢
  exact h.nodup hb

theorem has_pairs {W T : Int} {ds a b : List Int} (hl : a.length = b.length) (h : hasB a b = true) : List.Sublist (pairsI W T ds a) (pairsI W T ds b) :=
  pairs_sub hl fun k hk => hasB_iff.1 h k hk

theorem has_trans {a b c : List Int} (hl : a.length = b.length) (h1 : hasB a b = true) (h2 : hasB b c = true) : hasB a c = true := by
  rw [hasB_iff] at *
  intro k hk
  rcases h1 k hk with h | h
  · exact .inl h
  · rcases h2 k (by omega) with h3 | h3
    · left; omega
    · right; omega

/-- A list without the domino on a cell. -/
def liftI (W T : Int) (ls : List Int) (cell : Int) : List Int := (ls.set (stepI W T cell (ati ls cell)).toNat 0).set cell.toNat 0
theorem liftI_length (W T : Int) (ls : List Int) (cell : Int) : (liftI W T ls cell).length = ls.length := by simp [liftI]

theorem lift_at {W T : Int} {cs : List Bool} {ls : List Int} {k : Nat} (hr : regB W T cs = true) (hy : laysB W T cs ls = true) (hk : k < ls.length) (hv : ati ls k ≠ 0) :
    ∃ t : Nat, stepI W T k (ati ls k) = t ∧ t < ls.length ∧ t ≠ k ∧ ∀ j : Nat, ati (liftI W T ls k) j = if j = k then 0 else if j = t then 0 else ati ls j := by
  obtain ⟨w1, w2, t1, t2, l1, _⟩ := regB_W hr
  have hl := lays_len hy
  obtain ⟨v1, v4, g3, g4, g5, g6⟩ := lays_at hy hk hv
  obtain ⟨_, _, _, b4, b5⟩ := step_back (W := W) (T := T) (k := k) (way := ati ls k) w1 (by omega) (by omega) g4
  refine ⟨(stepI W T k (ati ls k)).toNat, by omega, by omega, by omega, fun j => ?_⟩
  unfold liftI
  rw [ati_set (by simpa using hk), ati_set (by omega)]
  simp

theorem lift_ok {W T : Int} {cs : List Bool} {ls : List Int} {k : Nat} (hr : regB W T cs = true) (hy : laysB W T cs ls = true) (hk : k < ls.length) (hv : ati ls k ≠ 0) : laysB W T cs (liftI W T ls k) = true := by
  obtain ⟨w1, w2, t1, t2, l1, _⟩ := regB_W hr
  have hl := lays_len hy
  obtain ⟨t, e, ht, htk, hat⟩ := lift_at hr hy hk hv
  obtain ⟨v1, v4, g3, g4, g5, g6⟩ := lays_at hy hk hv
  have sb := step_back (W := W) (T := T) (k := k) (way := ati ls k) w1 (by omega) (by omega) g4
  rw [e] at g6 sb
  simp only [laysB, Bool.and_eq_true, decide_eq_true_eq, allB_iff, liftI_length]
  refine ⟨hl, fun j hj => ?_⟩
  simp only [layAt, decide_eq_true_eq]
  rw [hat j]
  by_cases e1 : j = k
  · rw [if_pos e1]; exact .inl rfl
  rw [if_neg e1]
  by_cases e2 : j = t
  · rw [if_pos e2]; exact .inl rfl
  rw [if_neg e2]
  by_cases e3 : ati ls j = 0
  · exact .inl e3
  right
  obtain ⟨u1, u4, q3, q4, q5, q6⟩ := lays_at hy hj e3
  have sj := step_back (W := W) (T := T) (k := j) (way := ati ls j) w1 (by omega) (by omega) q4
  obtain ⟨s, hs⟩ : ∃ s : Nat, stepI W T j (ati ls j) = s := ⟨(stepI W T j (ati ls j)).toNat, by omega⟩
  rw [hs] at q4 q5 q6 sj ⊢
  refine ⟨u1, u4, q3, q4, q5, ?_⟩
  rw [hat s]
  have n1 : s ≠ k := by
    intro h
    subst h
    have h2 := sj.1
    rw [← q6, e] at h2
    omega
  have n2 : s ≠ t := by
    intro h
    subst h
    have h2 := sj.1
    rw [← q6, g6, sb.1] at h2
    omega
  rw [if_neg n1, if_neg n2]; exact q6

theorem lift_has {W T : Int} {cs : List Bool} {ls : List Int} {k : Nat} (hr : regB W T cs = true) (hy : laysB W T cs ls = true) (hk : k < ls.length) (hv : ati ls k ≠ 0) : hasB (liftI W T ls k) ls = true := by
  obtain ⟨t, e, ht, htk, hat⟩ := lift_at hr hy hk hv
  rw [hasB_iff]
  intro j _
  rw [hat j]
  by_cases e1 : j = k
  · rw [if_pos e1]; exact .inl rfl
  rw [if_neg e1]
  by_cases e2 : j = t
  · rw [if_pos e2]; exact .inl rfl
  rw [if_neg e2]; exact .inr rfl

theorem fair_parts {W T : Int} {cs : List Bool} {ds ls : List Int} (h : fairB W T cs ds ls = true) : regB W T cs = true ∧ digsB cs ds = true ∧ laysB W T cs ls = true ∧ onceB (pairsI W T ds ls) = true := by
  simp only [fairB, okB, Bool.and_eq_true] at h
  exact ⟨h.1.1, h.1.2.1, h.1.2.2, h.2⟩
theorem fair_of {W T : Int} {cs : List Bool} {ds ls : List Int} (h1 : regB W T cs = true) (h2 : digsB cs ds = true) (h3 : laysB W T cs ls = true) (h4 : onceB (pairsI W T ds ls) = true) : fairB W T cs ds ls = true := by
  simp only [fairB, okB, Bool.and_eq_true]
  exact ⟨⟨h1, h2, h3⟩, h4⟩

/-- Fewer dominoes are fair, too. -/
theorem fair_lift {W T : Int} {cs : List Bool} {ds ls : List Int} {k : Nat} (h : fairB W T cs ds ls = true) (hk : k < ls.length) (hv : ati ls k ≠ 0) : fairB W T cs ds (liftI W T ls k) = true := by
  obtain ⟨h1, h2, h3, h4⟩ := fair_parts h
  exact fair_of h1 h2 (lift_ok h1 h3 hk hv) (once_sub (has_pairs (liftI_length ..) (lift_has h1 h3 hk hv)) h4)

/-! A domino more. -/
theorem lay_hasB {W T : Int} {cs : List Bool} {ls : List Int} {k : Nat} {way : Int} (hr : regB W T cs = true) (hl : ls.length = cs.length) (hf : freeB W T cs ls k way = true) : hasB ls (layI W T ls k way) = true := by
  obtain ⟨t, e, t1, t2, t3, _, _, _, _, z1, z2, hat⟩ := free_facts hr hl hf
  rw [hasB_iff]
  intro j hj
  rw [hat j]
  by_cases e1 : j = t
  · subst e1; exact .inl z2
  by_cases e2 : j = k
  · subst e2; exact .inl z1
  rw [if_neg e1, if_neg e2]; exact .inr rfl

theorem domN_set {ls : List Int} {i : Nat} {v : Int} (h : i < ls.length) (hz : ati ls i = 0) : domN (ls.set i v) = domN ls + if isDom v then 1 else 0 := by
  have he : ls[i] = 0 := by simpa [ati, h] using hz
  unfold domN
  rw [List.countP_set h, he]
  simp [isDom]

theorem domN_lay {W T : Int} {cs : List Bool} {ls : List Int} {k : Nat} {way : Int} (hr : regB W T cs = true) (hl : ls.length = cs.length) (hf : freeB W T cs ls k way = true) : domN (layI W T ls k way) = domN ls + 1 := by
  obtain ⟨t, e, t1, t2, t3, v1, v4, _, _, z1, z2, hat⟩ := free_facts hr hl hf
  unfold layI
  have h1 : ati (ls.set k way) t = 0 := by rw [ati_set t2, if_neg t3]; exact z2
  rw [e]
  simp only [Int.toNat_natCast]
  rw [domN_set (by simpa using t1) h1, domN_set t2 z1]
  have : way = 1 ∨ way = 2 ∨ way = 3 ∨ way = 4 := by omega
  rcases this with rfl | rfl | rfl | rfl <;> simp [isDom, backI]

theorem optsI_filter (W T : Int) (cs : List Bool) (ds ls : List Int) (cell : Int) : optsI W T cs ds ls cell = [1, 2, 3, 4].filter (optB W T cs ds ls cell) := by
  simp only [optsI, optTo, List.range_succ, List.range_zero, List.nil_append, List.flatMap_append, List.flatMap_cons, List.flatMap_nil, List.append_nil, List.filter_cons, List.filter_nil]
  cases h1 : optB W T cs ds ls cell 1 <;> cases h2 : optB W T cs ds ls cell 2 <;> cases h3 : optB W T cs ds ls cell 3 <;> cases h4 : optB W T cs ds ls cell 4 <;> simp [h1, h2, h3, h4]

theorem opts_mem {W T : Int} {cs : List Bool} {ds ls : List Int} {cell x : Int} : x ∈ optsI W T cs ds ls cell ↔ optB W T cs ds ls cell x = true ∧ 1 ≤ x ∧ x ≤ 4 := by
  rw [optsI_filter, List.mem_filter]
  simp only [List.mem_cons, List.not_mem_nil, or_false]
  constructor
  · rintro ⟨h1, h2⟩; exact ⟨h2, by omega, by omega⟩
  · rintro ⟨h1, h2, h3⟩; exact ⟨by omega, h1⟩

/-! Solutions. -/
theorem solved_parts {W T : Int} {cs : List Bool} {ds p : List Int} (h : solvedB W T cs ds p = true) : fairB W T cs ds p = true ∧ fullB cs p = true := by
  simpa only [solvedB, Bool.and_eq_true] using h

theorem full_at {cs : List Bool} {p : List Int} (h : fullB cs p = true) {k : Nat} (hk : k < cs.length) (hc : atb cs k = true) : ati p k ≠ 0 := by
  rw [fullB, allB_iff] at h
  have := h k hk
  simpa [fullAt, hc] using this

theorem full_bare {cs : List Bool} {p : List Int} (hl : p.length = cs.length) (h : fullB cs p = true) : bareI cs p < 0 := by
  rcases bare_cases cs p with h1 | ⟨k, hk, he, hc, hz⟩
  · omega
  · exact absurd hz (full_at h (by omega) hc)

/-- What solves the puzzle is one of the solutions. -/
theorem mem_sols {W T : Int} {cs : List Bool} {ds p : List Int} : p ∈ solsI W T cs ds ↔ solvedB W T cs ds p = true := by
  constructor
  · intro h
    unfold solsI at h
    split at h
    · exact (List.mem_filter.1 h).2
    · cases h
  · intro h
    obtain ⟨hf, hfull⟩ := solved_parts h
    obtain ⟨hr, hd, hy, ho⟩ := fair_parts hf
    have hl := lays_len hy
    have hz : zeros p ≤ cs.length := by have := zeros_le p; omega
    have hn : (noneL cs).length = cs.length := by simp [noneL]
    have hzn : zeros (noneL cs) ≤ cs.length := by have := zeros_le (noneL cs); omega
    have e := allT_filter hr cs.length (noneL cs) p cs.length hzn hz (lays_none W T cs) hy (hasB_iff.2 fun k _ => .inl (ati_none cs k))
    rw [allT_leaf _ (full_bare hl hfull)] at e
    have hm : p ∈ (allT W T cs cs.length (noneL cs)).filter (hasB p) := by rw [e]; simp
    unfold solsI
    rw [if_pos (by simp [hr, hd]), List.mem_filter]
    refine ⟨?_, h⟩
    rw [tilesI, if_pos hr]
    exact (List.mem_filter.1 hm).1

/-- A bare cell's domino in a solution is an option. -/
theorem opt_of_sol {W T : Int} {cs : List Bool} {ds ls p : List Int} {k : Nat} (hy : laysB W T cs ls = true) (hp : solvedB W T cs ds p = true) (hs : hasB ls p = true) (hk : k < cs.length) (hc : atb cs k = true) (hz : ati ls k = 0) :
    optB W T cs ds ls k (ati p k) = true ∧ 1 ≤ ati p k ∧ ati p k ≤ 4 ∧ hasB (layI W T ls k (ati p k)) p = true := by
  obtain ⟨hf, hfull⟩ := solved_parts hp
  obtain ⟨hr, hd, hyp, ho⟩ := fair_parts hf
  have hl := lays_len hy
  have hlp := lays_len hyp
  obtain ⟨w1, w2, t1, t2, l1, _⟩ := regB_W hr
  have hv := full_at hfull hk hc
  obtain ⟨v1, v4, g3, g4, g5, g6⟩ := lays_at hyp (k := k) (by omega) hv
  obtain ⟨v, hvv⟩ : ∃ v, ati p k = v := ⟨_, rfl⟩
  rw [hvv] at v1 v4 g4 g5 g6 hv ⊢
  have sb := step_back (W := W) (T := T) (k := k) (way := v) w1 (by omega) (by omega) g4
  obtain ⟨t, ht⟩ : ∃ t : Nat, stepI W T k v = t := ⟨(stepI W T k v).toNat, by omega⟩
  have hzt : ati ls t = 0 := by
    rcases hasB_iff.1 hs t (by omega) with h | h
    · exact h
    · exfalso
      rw [ht] at g6
      have := lays_back hr hy (k := k) (t := t) (way := v) (by omega) ht (by rw [← h]; exact g6)
      omega
  have hfree : freeB W T cs ls k v = true := by
    simp only [freeB, decide_eq_true_eq]
    exact ⟨by omega, by omega, g4, hc, g5, hz, by rw [ht]; exact hzt⟩
  have hh := lay_has hr hl hfree hs hvv g6
  refine ⟨?_, v1, v4, hh⟩
  simp only [optB, Bool.and_eq_true]
  exact ⟨hfree, once_sub (has_pairs (by rw [layI_length]; omega) hh) ho⟩

theorem firstHas_sol {W T : Int} {cs : List Bool} {ds ls x : List Int} (h : firstHas W T cs ds ls = some x) : fairB W T cs ds ls = true ∧ solvedB W T cs ds x = true ∧ hasB ls x = true := by
  unfold firstHas at h
  split at h
  · rename_i hf
    exact ⟨hf, mem_sols.1 (List.mem_of_find?_eq_some h), List.find?_some h⟩
  · cases h

/-- What is forced is in every solution. -/
theorem force1_sol {W T : Int} {cs : List Bool} {ds ls p : List Int} (hy : laysB W T cs ls = true) (hp : solvedB W T cs ds p = true) (hs : hasB ls p = true) : hasB (force1 W T cs ds ls) p = true := by
  have hl := lays_len hy
  rcases one_cases W T cs ds ls with h | ⟨k, hk, he, hc, hz, hol, hob, hw⟩
  · rw [force1, if_pos (by omega)]; exact hs
  · rw [force1, he, if_neg (by omega)]
    obtain ⟨o1, o2, o3, o4⟩ := opt_of_sol hy hp hs (by omega) hc hz
    have hm : ati p k ∈ optsI W T cs ds ls k := opts_mem.2 ⟨o1, o2, o3⟩
    rw [hol, List.mem_singleton] at hm
    rw [← hm]; exact o4

theorem force1_has {W T : Int} {cs : List Bool} {ds ls : List Int} (hr : regB W T cs = true) (hl : ls.length = cs.length) : hasB ls (force1 W T cs ds ls) = true := by
  rcases one_cases W T cs ds ls with h | ⟨k, hk, he, hc, hz, hol, hob, hw⟩
  · rw [force1, if_pos (by omega)]; exact hasB_refl ls
  · rw [force1, he, if_neg (by omega)]
    exact lay_hasB hr hl (optB_free hob)

theorem force1_domN {W T : Int} {cs : List Bool} {ds ls : List Int} (hr : regB W T cs = true) (hl : ls.length = cs.length) (hb : force1B W T cs ds ls = true) : domN (force1 W T cs ds ls) = domN ls + 1 := by
  rcases one_cases W T cs ds ls with h | ⟨k, hk, he, hc, hz, hol, hob, hw⟩
  · simp [force1B, h] at hb
  · rw [force1, he, if_neg (by omega)]
    exact domN_lay hr hl (optB_free hob)

theorem forceAllN_facts {W T : Int} {cs : List Bool} {ds : List Int} : ∀ (n : Nat) (ls : List Int), zeros ls ≤ n → fairB W T cs ds ls = true →
    fairB W T cs ds (forceAllN W T cs ds n ls) = true ∧ hasB ls (forceAllN W T cs ds n ls) = true ∧ force1B W T cs ds (forceAllN W T cs ds n ls) = false ∧
    ∀ p, solvedB W T cs ds p = true → hasB ls p = true → hasB (forceAllN W T cs ds n ls) p = true
  | 0, ls, hz, hf => by
    refine ⟨hf, hasB_refl ls, ?_, fun p _ h => h⟩
    cases hb : force1B W T cs ds (forceAllN W T cs ds 0 ls) with
    | false => rfl
    | true =>
      have := force1_zeros hb
      rw [forceAllN] at this
      omega
  | n + 1, ls, hz, hf => by
    rw [forceAllN]
    obtain ⟨hr, hd, hy, ho⟩ := fair_parts hf
    split
    · rename_i hb
      have hz2 := force1_zeros hb
      obtain ⟨i1, i2, i3, i4⟩ := forceAllN_facts n (force1 W T cs ds ls) (by omega) (force1_fair hf)
      exact ⟨i1, has_trans (by rw [force1_length]) (force1_has hr (lays_len hy)) i2, i3, fun p hp hs => i4 p hp (force1_sol hy hp hs)⟩
    · rename_i hb
      exact ⟨hf, hasB_refl ls, by simpa using hb, fun p _ h => h⟩

theorem forceAll_facts {W T : Int} {cs : List Bool} {ds ls : List Int} (hf : fairB W T cs ds ls = true) :
    fairB W T cs ds (forceAllI W T cs ds ls) = true ∧ hasB ls (forceAllI W T cs ds ls) = true ∧ force1B W T cs ds (forceAllI W T cs ds ls) = false ∧
    ∀ p, solvedB W T cs ds p = true → hasB ls p = true → hasB (forceAllI W T cs ds ls) p = true :=
  forceAllN_facts ls.length ls (zeros_le ls) hf

end Go.Proofs.Dev

namespace Go.Proofs
open Go.Shelf
namespace Dev

end Dev
end Go.Proofs

namespace Go.Proofs.Dev
set_option linter.unusedSimpArgs false
set_option maxRecDepth 100000

/-- All pairs, in ascending order. -/
def prL : List (Int × Int) := (List.range 7).flatMap fun a => (List.range' a (7 - a)).map fun b : Nat => ((a : Int), (b : Int))
/-- How many pairs have a lesser number below a. -/
def stN (a : Nat) : Nat := a * (15 - a) / 2

theorem stN_succ {a : Nat} (h : a < 7) : stN (a + 1) = stN a + (7 - a) ∧ stN a + (7 - a) ≤ 28 := by
  have : ∀ a < 7, stN (a + 1) = stN a + (7 - a) ∧ stN a + (7 - a) ≤ 28 := by decide
  exact this a h
theorem prL_at {a b : Nat} (h : a < 7) (hb : b < 7 - a) : prL[stN a + b]? = some ((a : Int), ((a + b : Nat) : Int)) := by
  have : ∀ a < 7, ∀ b < 7 - a, prL[stN a + b]? = some ((a : Int), ((a + b : Nat) : Int)) := by decide
  exact this a h b hb
end Go.Proofs.Dev

namespace Go.Proofs.Dev
set_option linter.unusedSimpArgs false
set_option maxRecDepth 100000

def prAt (n : Nat) : Int × Int := prL.getD n (0, 0)
def domB (ls : List Int) (k : Nat) : Bool := decide (ati ls k = 1 ∨ ati ls k = 2)
/-- How many dominoes begin ahead of a cell. -/
def domTo (ls : List Int) : Nat → Nat
  | 0 => 0
  | i + 1 => domTo ls i + if domB ls i then 1 else 0
def putP (out : List Int) (i j : Nat) (p : Int × Int) : List Int := (out.set i p.1).set j p.2
/-- The numbers of the dominoes that begin ahead of a cell. -/
def mkTo (W T : Int) (ls : List Int) (fr : Nat) : Nat → List Int
  | 0 => List.replicate ls.length (-1)
  | i + 1 => if domB ls i then putP (mkTo W T ls fr i) i (stepI W T i (ati ls i)).toNat (prAt ((fr + domTo ls i) % 28)) else mkTo W T ls fr i
def mkI (W T : Int) (cs : List Bool) (ls : List Int) (fr : Int) : List Int :=
  if (regB W T cs && laysB W T cs ls && fullB cs ls && decide (0 ≤ fr ∧ fr ≤ 27)) = true then mkTo W T ls fr.toNat ls.length else []

theorem domTo_le (ls : List Int) : ∀ i, domTo ls i ≤ i
  | 0 => Nat.le_refl _
  | i + 1 => by have := domTo_le ls i; simp only [domTo]; split <;> omega
theorem mkTo_length (W T : Int) (ls : List Int) (fr : Nat) : ∀ i, (mkTo W T ls fr i).length = ls.length
  | 0 => by simp [mkTo]
  | i + 1 => by
    have := mkTo_length W T ls fr i
    simp only [mkTo]; split
    · simp [putP, this]
    · exact this
theorem mkI_length (W T : Int) (cs : List Bool) (ls : List Int) (fr : Int) : (mkI W T cs ls fr).length ≤ ls.length := by
  unfold mkI; split
  · simp [mkTo_length]
  · simp

theorem stN_le {a N : Nat} (h : N < 28) (h2 : stN a ≤ N) (h7 : a ≤ 7) : a < 7 := by
  have e : stN 7 = 28 := by decide
  rcases Nat.lt_or_ge a 7 with h | h
  · exact h
  · have : a = 7 := by omega
    subst this; omega

/-- What a first cell of a domino knows of the other. -/
theorem lays_first {W T : Int} {cs : List Bool} {ls : List Int} (hr : regB W T cs = true) (hy : laysB W T cs ls = true) {k : Nat} (hk : k < ls.length) (hw : ati ls k = 1 ∨ ati ls k = 2) :
    0 ≤ stepI W T k (ati ls k) ∧ stepI W T k (ati ls k) < cs.length := by
  obtain ⟨w1, w2, t1, t2, l1, _⟩ := regB_W hr
  simp only [laysB, Bool.and_eq_true, decide_eq_true_eq, allB_iff] at hy
  obtain ⟨hl, hy⟩ := hy
  have p1 := hy k hk
  have hst := stepI_range (T := T) (k := k) (way := ati ls k) w1 (by omega) (by omega)
  simp only [layAt, decide_eq_true_eq] at p1
  rcases p1 with p1 | ⟨_, _, pc, p0, pt, _⟩
  · omega
  · omega

theorem s_spec_MakePuzzle (W T : Int) (cs : List Bool) (ls : List Int) (fr : Int) (hb : cs.length < 2 ^ 40) (hl : ls.length < 2 ^ 40) :
    SoundAt Tryz.prog n_spec_MakePuzzle [.agg [.v (.int .i64 W), .v (.int .i64 T), .sl 1 1 (bools cs)], .sl 1 1 (ints ls), .v (.int .i64 fr)] (.os 1 (ints (mkI W T cs ls fr))) [.bot, .bot, .bot] := by
  refine fn_ok (md := md0) (ms := [false, false, false]) k_spec_MakePuzzle (by simp) ?_
  simp [c_spec_MakePuzzle]
  refine call_on (s_spec_TilingOk W T cs ls hb hl) ?_
  cases hp : (regB W T cs && laysB W T cs ls && fullB cs ls) with
  | false => simp [mkI, hp]
  | true =>
  simp
  refine call_on (s_spec_l1In fr 0 27) ?_
  by_cases hx : 0 ≤ fr ∧ fr ≤ 27
  case neg =>
    have hx2 : (decide (0 ≤ fr) && decide (fr ≤ 27)) = false := by simp; omega
    simp [hx2, mkI, hx]
  obtain ⟨f, rfl⟩ : ∃ f : Nat, fr = f := ⟨fr.toNat, by omega⟩
  have hrl := hp
  simp only [Bool.and_eq_true] at hrl
  obtain ⟨⟨hr, hy⟩, hfull⟩ := hrl
  have hlen : ls.length = cs.length := by simp only [laysB, Bool.and_eq_true, decide_eq_true_eq] at hy; exact hy.1
  have h36 := regB_len hr
  have hmk : mkI W T cs ls f = mkTo W T ls f ls.length := by simp [mkI, hp, hx]
  rw [hmk]
  simp [hx]
  refine loop_by (fun m E H => ∃ i : Nat, m = ls.length - i ∧ i ≤ ls.length ∧ H = [some (.box [.v (.int .i64 W), .v (.int .i64 T), .sl 1 1 (bools cs)]), some (.arr 1 (ints (List.replicate i (-1))))] ∧
    E = [(1, .sl 1 1 (ints ls)), (2, .v (.int .i64 f)), (3, .lp 0 0 0 0), (7, .ls 1 1 0 i), (8, .v (.int .i64 i))]) ls.length ⟨0, by simp⟩ ?_
  rintro J hJ m E H ⟨i, rfl, hi, rfl, rfl⟩
  by_cases h : i < ls.length
  · simp [c_spec_MakePuzzle_L0, h]
    refine ⟨by omega, by omega, _, by omega, hJ _ _ _ ⟨i + 1, rfl, h, ?_, by simp⟩⟩
    rw [List.replicate_succ', ints_append]; rfl
  have : i = ls.length := by omega
  subst this
  simp [c_spec_MakePuzzle_L0]
  clear hJ J
  refine loop_by (fun m E H => ∃ i : Nat, m = ls.length - i ∧ i ≤ ls.length ∧ H = [some (.box [.v (.int .i64 W), .v (.int .i64 T), .sl 1 1 (bools cs)]), some (.arr 1 (ints (mkTo W T ls f i)))] ∧
    E = [(1, .sl 1 1 (ints ls)), (2, .v (.int .i64 ((f + domTo ls i : Nat) : Int))), (3, .lp 0 0 0 0), (7, .ls 1 1 0 ls.length), (9, .v (.int .i64 i))]) ls.length ⟨0, by simp [mkTo, domTo]⟩ ?_
  rintro J hJ m E H ⟨i, rfl, hi, rfl, rfl⟩
  have hml := mkTo_length W T ls f i
  by_cases h : i < ls.length
  case neg =>
    have : i = ls.length := by omega
    subst this
    simp [c_spec_MakePuzzle_L2, hml]
    exact List.take_of_length_le (by simp [hml])
  by_cases hd : domB ls i = true
  case neg =>
    have hw : ¬ (ati ls i = 1 ∨ ati ls i = 2) := by simpa [domB] using hd
    have hw1 : ¬ ati ls i = 1 := fun e => hw (.inl e)
    have hw2 : ¬ ati ls i = 2 := fun e => hw (.inr e)
    simp [c_spec_MakePuzzle_L2, h, hw1, hw2]
    refine ⟨by omega, _, by omega, hJ _ _ _ ⟨i + 1, rfl, h, ?_, ?_⟩⟩ <;> simp [mkTo, domTo, hd]
  have hw : ati ls i = 1 ∨ ati ls i = 2 := by simpa [domB] using hd
  have hdn := domTo_le ls i
  obtain ⟨o1, o2⟩ := lays_first hr hy h hw
  have one := s_spec_l2Step W T cs i (ati ls i) hr (by omega) (by omega)
  generalize hto : stepI W T i (ati ls i) = to at *
  generalize hout : mkTo W T ls f i = out at *
  generalize hN : (f + domTo ls i) % 28 = N at *
  have hN28 : N < 28 := by omega
  have next : again J (ls.length - i) [(1, .sl 1 1 (ints ls)), (2, .v (.int .i64 ((f : Int) + (domTo ls i : Nat) + 1))), (3, .lp 0 0 0 0), (7, .ls 1 1 0 ls.length), (9, .v (.int .i64 (i + 1)))]
      [some (.box [.v (.int .i64 W), .v (.int .i64 T), .sl 1 1 (bools cs)]), some (.arr 1 (ints (putP out i to.toNat (prAt N))))] := by
    refine ⟨_, by omega, hJ _ _ _ ⟨i + 1, rfl, h, ?_, ?_⟩⟩
    · simp [mkTo, hd, hto, hout, hN]
    · simp [domTo, hd, Int.add_assoc]
  have hNi : ((f : Int) + (domTo ls i : Nat)) % 28 = (N : Int) := by omega
  rcases hw with hw | hw <;> rw [hw] at one <;>
  · simp [c_spec_MakePuzzle_L2, h, hw, hNi]
    refine ⟨by omega, ?_⟩
    refine loop_by (fun b E H => ∃ a : Nat, a < 7 ∧ stN a + b = N ∧ H = [some (.box [.v (.int .i64 W), .v (.int .i64 T), .sl 1 1 (bools cs)]), some (.arr 1 (ints out))] ∧
      E = [(1, .sl 1 1 (ints ls)), (2, .v (.int .i64 ((f : Int) + (domTo ls i : Nat)))), (3, .lp 0 0 0 0), (7, .ls 1 1 0 ls.length), (9, .v (.int .i64 i)), (10, .v (.int .i64 b)), (11, .v (.int .i64 a))]) N ⟨0, by omega, by simp [stN], rfl, by simp⟩ ?_
    rintro J2 hJ2 b E H ⟨a, ha, hab, rfl, rfl⟩
    by_cases hb6 : a + b ≤ 6
    case neg =>
      have hb6' : (6 : Int) - a < b := by omega
      have hs := stN_succ ha
      have ha7 := stN_le (a := a + 1) hN28 (by omega) (by omega)
      have e1 : ((b : Int) - (6 - (a : Int) + 1)) = ((b - (7 - a) : Nat) : Int) := by omega
      simp [c_spec_MakePuzzle_L1, hb6', e1]
      refine ⟨by omega, by omega, by omega, by omega, b - (7 - a), by omega, hJ2 _ _ _ ⟨a + 1, ha7, by omega, rfl, ?_⟩⟩
      simp
    have hb6' : ¬ (6 : Int) - a < b := by omega
    have hpr : prAt N = ((a : Int), ((a + b : Nat) : Int)) := by simp only [prAt, List.getD_eq_getElem?_getD, ← hab, prL_at ha (by omega : b < 7 - a), Option.getD_some]
    rw [hpr] at next
    simp [putP] at next
    have hio : i < out.length := by omega
    have hto2 : to < out.length := by omega
    simp [c_spec_MakePuzzle_L1, hb6', hio, hml, h]
    refine ⟨by omega, ?_⟩
    simp [c_spec_MakePuzzle_D, h, hw, ints_set]
    (repeat' first | omega | apply And.intro) <;>
    · refine call_on one ?_
      simp [o1, hml, ints_set]
      exact ⟨by omega, by omega, by omega, next⟩

theorem s_impl_LaidOk (W T : Int) (cs : List Bool) (ls : List Int) (hb : cs.length < 2 ^ 40) (hl : ls.length < 2 ^ 40) :
    SoundAt Tryz.prog n_impl_LaidOk [.agg [.v (.int .i64 W), .v (.int .i64 T), .sl 1 1 (bools cs)], .sl 1 1 (ints ls)] (.v (.bool (regB W T cs && laysB W T cs ls))) [.bot, .bot] := by
  refine fn_ok (md := md0) (ms := [false, false]) k_impl_LaidOk (by simp) ?_
  simp [c_impl_LaidOk]
  refine call_on (s_impl_RegionValid W T cs hb) ?_
  cases hr : regB W T cs with
  | false => simp
  | true =>
  simp
  refine call_on (s_impl_Region_lays W T cs ls hr hl) ?_
  simp

end Go.Proofs.Dev
