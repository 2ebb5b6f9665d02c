/- Contracts of the functions of the program over slots and rows, each proved against the program itself; no condition beyond those that each theorem names. -/
import Derived.Test.YtakaenhgbkbegaaGreatAT
import Derived.Test.YtakaenhgbkbegaaGreatProg
import Derived.Test.YtakaenhgbkbegaaGreatAK
import Derived.Test.YtakaenhgbkbegaaGreatAV
import Derived.Test.YtakaenhgbkbegaaGreatAW
import Derived.Test.YtakaenhgbkbegaaGreatAQ
import Derived.Test.YtakaenhgbkbegaaGreatAM

set_option linter.unusedSimpArgs false
set_option linter.unusedVariables false

namespace Go.Proofs.Dev

def c_impl_Region_around_N : BCode := .seq (.base (.reg [.o 2 .box [.t 0], .o 4 (.alloc [.v (.int .i64 (0)), .v (.int .i64 (0)), .v (.int .i64 (0)),
 .v (.int .i64 (0))]) [], .o 5 .mv [.c (.v (.bool false))]])) <| .seq (.calm [(false, .m 9 1), (false, .f 10 0 2), (false, .l 11 10), (false,
 .o 12 (.bin .add 0) [.t 11, .k 1]), (true, .o 13 (.bin .rem 0) [.t 9, .t 12]), (false, .m 14 1), (false, .f 15 0 2), (false, .l 16 15), (false,
 .o 17 (.bin .add 0) [.t 16, .k 1]), (true, .o 18 (.bin .quo 0) [.t 14, .t 17]), (false, .m 6 13), (false, .m 7 18)]) <| .base (c_impl_Region_around_T0)

theorem kn_impl_Region_around : cFnB Tryz.prog n_impl_Region_around 59 [.c 4 true 4, .t 5] c_impl_Region_around_N := ⟨Tryz.f185, _, Tryz.func185, rfl, by kernel_rfl, by kernel_rfl, by kernel_rfl, by kernel_rfl⟩


-- 1 parameters, results [.c 2 true 6], 44 slots, modes [false]
@[simp] abbrev n_impl_Book_copyOf : Nat := 64
def c_impl_Book_copyOf_L0 : ACode := .seq (.reg [.o 32 (.bin .lss 0) [.t 31, .t 30]]) <| .seq (.cond (.t 32) ( .skip) ( .exit 0)) <|
 .seq (.block 1 ( .seq (.reg [.m 33 31, .o 34 (.iadr 1) [.t 29, .t 31], .l 35 34, .m 4 33, .m 5 35]) <| .draw ( .take (.f 36 5 3) <| .take (.m 38 4) <|
 .take (.m 39 5) <| .alt (.l 37 36) ( .al (.o 40 (.call 58 []) [.t 39]) ( .take (.o 41 (.iadr 1) [.t 37, .t 38]) <| .al (.s (.store 1) [.t 41,
 .t 40]) ( .done))) <| .al (.o 40 (.call 58 []) [.t 39]) ( .al (.l 37 36) ( .take (.o 41 (.iadr 1) [.t 37, .t 38]) <| .al (.s (.store 1) [.t 41,
 .t 40]) ( .done)))))) <| .reg [.o 42 (.bin .add 0) [.t 31, .k 1], .m 31 42]

def c_impl_Book_copyOf_T1 : ACode := .seq (.seq (.reg [.f 28 5 1, .l 29 28, .o 30 (.len false) [.t 29], .o 31 .mv [.k 0]]) <| .block 0 ( .loop [(29, 1)] [2, 3,
 29, 30, 31] c_impl_Book_copyOf_L0)) <| .seq (.reg [.o 43 (.load true 6) [.t 3], .s (.store 6) [.t 2, .t 43]]) <| .ret

def c_impl_Book_copyOf_E : BCode := .seq (.base (.reg [.o 1 .box [.t 0], .o 2 (.alloc [.v (.int .i64 (0)), .v (.int .i64 (0)), .os 1 [], .os 1 [], .os 1 [],
 .os 1 []]) []])) <| .frz 1 <| .seq (.early [.f 6 0 1, .f 7 0 6, .l 8 7, .f 9 0 1, .f 10 1 9, .l 11 10, .f 12 0 1, .f 13 2 12, .l 14 13, .f 17 3 1, .l 18 17,
 .f 20 4 1, .l 21 20, .f 23 5 1, .l 24 23, .o 25 (.len false) [.t 24]] ( .alt (.o 15 (.call 57 []) [.t 14]) ( .take (.o 16 (.build [.v (.int .i64 (0)),
 .v (.int .i64 (0)), .os 1 []] [(0, 1), (1, 1), (2, 1)]) [.t 8, .t 11, .t 15]) <|
 .alt (.o 19 (.call 58 []) [.t 18]) ( .alt (.o 22 (.call 58 []) [.t 21]) ( .alt (.o 26 (.mksl 1 24 (.os 1 [])) [.t 25,
 .t 25]) ( .take (.o 27 (.build [.v (.int .i64 (0)), .v (.int .i64 (0)), .os 1 [], .os 1 [], .os 1 [], .os 1 []] [(0, 3), (3, 1), (4, 1), (5, 1)]) [.t 16, .t 19,
 .t 22, .t 26]) <| .al (.o 3 (.alloc [.v (.int .i64 (0)), .v (.int .i64 (0)), .os 1 [], .os 1 [], .os 1 [], .os 1 []]) []) ( .al (.s (.store 6) [.t 3,
 .t 27]) ( .done))) <| .al (.o 3 (.alloc [.v (.int .i64 (0)), .v (.int .i64 (0)), .os 1 [], .os 1 [], .os 1 [],
 .os 1 []]) []) ( .al (.o 26 (.mksl 1 24 (.os 1 [])) [.t 25, .t 25]) ( .take (.o 27 (.build [.v (.int .i64 (0)), .v (.int .i64 (0)), .os 1 [], .os 1 [],
 .os 1 [], .os 1 []] [(0, 3), (3, 1), (4, 1), (5, 1)]) [.t 16, .t 19, .t 22, .t 26]) <| .al (.s (.store 6) [.t 3, .t 27]) ( .done)))) <|
 .alt (.o 26 (.mksl 1 24 (.os 1 [])) [.t 25, .t 25]) ( .alt (.o 22 (.call 58 []) [.t 21]) ( .take (.o 27 (.build [.v (.int .i64 (0)), .v (.int .i64 (0)),
 .os 1 [], .os 1 [], .os 1 [], .os 1 []] [(0, 3), (3, 1), (4, 1), (5, 1)]) [.t 16, .t 19, .t 22, .t 26]) <| .al (.o 3 (.alloc [.v (.int .i64 (0)),
 .v (.int .i64 (0)), .os 1 [], .os 1 [], .os 1 [], .os 1 []]) []) ( .al (.s (.store 6) [.t 3, .t 27]) ( .done))) <| .al (.o 3 (.alloc [.v (.int .i64 (0)),
 .v (.int .i64 (0)), .os 1 [], .os 1 [], .os 1 [], .os 1 []]) []) ( .al (.o 22 (.call 58 []) [.t 21]) ( .take (.o 27 (.build [.v (.int .i64 (0)),
 .v (.int .i64 (0)), .os 1 [], .os 1 [], .os 1 [], .os 1 []] [(0, 3), (3, 1), (4, 1), (5, 1)]) [.t 16, .t 19, .t 22, .t 26]) <| .al (.s (.store 6) [.t 3,
 .t 27]) ( .done)))) <| .al (.o 3 (.alloc [.v (.int .i64 (0)), .v (.int .i64 (0)), .os 1 [], .os 1 [], .os 1 [],
 .os 1 []]) []) ( .alt (.o 22 (.call 58 []) [.t 21]) ( .al (.o 26 (.mksl 1 24 (.os 1 [])) [.t 25, .t 25]) ( .take (.o 27 (.build [.v (.int .i64 (0)),
 .v (.int .i64 (0)), .os 1 [], .os 1 [], .os 1 [], .os 1 []] [(0, 3), (3, 1), (4, 1), (5, 1)]) [.t 16, .t 19, .t 22, .t 26]) <| .al (.s (.store 6) [.t 3,
 .t 27]) ( .done))) <| .al (.o 26 (.mksl 1 24 (.os 1 [])) [.t 25, .t 25]) ( .al (.o 22 (.call 58 []) [.t 21]) ( .take (.o 27 (.build [.v (.int .i64 (0)),
 .v (.int .i64 (0)), .os 1 [], .os 1 [], .os 1 [], .os 1 []] [(0, 3), (3, 1), (4, 1), (5, 1)]) [.t 16, .t 19, .t 22, .t 26]) <| .al (.s (.store 6) [.t 3,
 .t 27]) ( .done))))) <| .alt (.o 26 (.mksl 1 24 (.os 1 [])) [.t 25,
 .t 25]) ( .alt (.o 19 (.call 58 []) [.t 18]) ( .alt (.o 22 (.call 58 []) [.t 21]) ( .take (.o 27 (.build [.v (.int .i64 (0)), .v (.int .i64 (0)), .os 1 [],
 .os 1 [], .os 1 [], .os 1 []] [(0, 3), (3, 1), (4, 1), (5, 1)]) [.t 16, .t 19, .t 22, .t 26]) <| .al (.o 3 (.alloc [.v (.int .i64 (0)), .v (.int .i64 (0)),
 .os 1 [], .os 1 [], .os 1 [], .os 1 []]) []) ( .al (.s (.store 6) [.t 3, .t 27]) ( .done))) <| .al (.o 3 (.alloc [.v (.int .i64 (0)), .v (.int .i64 (0)),
 .os 1 [], .os 1 [], .os 1 [], .os 1 []]) []) ( .al (.o 22 (.call 58 []) [.t 21]) ( .take (.o 27 (.build [.v (.int .i64 (0)), .v (.int .i64 (0)), .os 1 [],
 .os 1 [], .os 1 [], .os 1 []] [(0, 3), (3, 1), (4, 1), (5, 1)]) [.t 16, .t 19, .t 22, .t 26]) <| .al (.s (.store 6) [.t 3, .t 27]) ( .done)))) <|
 .al (.o 3 (.alloc [.v (.int .i64 (0)), .v (.int .i64 (0)), .os 1 [], .os 1 [], .os 1 [],
 .os 1 []]) []) ( .al (.o 19 (.call 58 []) [.t 18]) ( .al (.o 22 (.call 58 []) [.t 21]) ( .take (.o 27 (.build [.v (.int .i64 (0)), .v (.int .i64 (0)), .os 1 [],
 .os 1 [], .os 1 [], .os 1 []] [(0, 3), (3, 1), (4, 1), (5, 1)]) [.t 16, .t 19, .t 22, .t 26]) <| .al (.s (.store 6) [.t 3, .t 27]) ( .done))))) <|
 .al (.o 3 (.alloc [.v (.int .i64 (0)), .v (.int .i64 (0)), .os 1 [], .os 1 [], .os 1 [],
 .os 1 []]) []) ( .alt (.o 19 (.call 58 []) [.t 18]) ( .alt (.o 22 (.call 58 []) [.t 21]) ( .al (.o 26 (.mksl 1 24 (.os 1 [])) [.t 25,
 .t 25]) ( .take (.o 27 (.build [.v (.int .i64 (0)), .v (.int .i64 (0)), .os 1 [], .os 1 [], .os 1 [], .os 1 []] [(0, 3), (3, 1), (4, 1), (5, 1)]) [.t 16, .t 19,
 .t 22, .t 26]) <| .al (.s (.store 6) [.t 3, .t 27]) ( .done))) <| .al (.o 26 (.mksl 1 24 (.os 1 [])) [.t 25,
 .t 25]) ( .al (.o 22 (.call 58 []) [.t 21]) ( .take (.o 27 (.build [.v (.int .i64 (0)), .v (.int .i64 (0)), .os 1 [], .os 1 [], .os 1 [], .os 1 []] [(0, 3), (3,
 1), (4, 1), (5, 1)]) [.t 16, .t 19, .t 22, .t 26]) <| .al (.s (.store 6) [.t 3, .t 27]) ( .done)))) <| .al (.o 26 (.mksl 1 24 (.os 1 [])) [.t 25,
 .t 25]) ( .al (.o 19 (.call 58 []) [.t 18]) ( .al (.o 22 (.call 58 []) [.t 21]) ( .take (.o 27 (.build [.v (.int .i64 (0)), .v (.int .i64 (0)), .os 1 [],
 .os 1 [], .os 1 [], .os 1 []] [(0, 3), (3, 1), (4, 1), (5, 1)]) [.t 16, .t 19, .t 22, .t 26]) <| .al (.s (.store 6) [.t 3, .t 27]) ( .done)))))) <|
 .alt (.o 26 (.mksl 1 24 (.os 1 [])) [.t 25, .t 25]) ( .alt (.o 15 (.call 57 []) [.t 14]) ( .take (.o 16 (.build [.v (.int .i64 (0)), .v (.int .i64 (0)),
 .os 1 []] [(0, 1), (1, 1), (2, 1)]) [.t 8, .t 11, .t 15]) <|
 .alt (.o 19 (.call 58 []) [.t 18]) ( .alt (.o 22 (.call 58 []) [.t 21]) ( .take (.o 27 (.build [.v (.int .i64 (0)), .v (.int .i64 (0)), .os 1 [], .os 1 [],
 .os 1 [], .os 1 []] [(0, 3), (3, 1), (4, 1), (5, 1)]) [.t 16, .t 19, .t 22, .t 26]) <| .al (.o 3 (.alloc [.v (.int .i64 (0)), .v (.int .i64 (0)), .os 1 [],
 .os 1 [], .os 1 [], .os 1 []]) []) ( .al (.s (.store 6) [.t 3, .t 27]) ( .done))) <| .al (.o 3 (.alloc [.v (.int .i64 (0)), .v (.int .i64 (0)), .os 1 [],
 .os 1 [], .os 1 [], .os 1 []]) []) ( .al (.o 22 (.call 58 []) [.t 21]) ( .take (.o 27 (.build [.v (.int .i64 (0)), .v (.int .i64 (0)), .os 1 [], .os 1 [],
 .os 1 [], .os 1 []] [(0, 3), (3, 1), (4, 1), (5, 1)]) [.t 16, .t 19, .t 22, .t 26]) <| .al (.s (.store 6) [.t 3, .t 27]) ( .done)))) <|
 .al (.o 3 (.alloc [.v (.int .i64 (0)), .v (.int .i64 (0)), .os 1 [], .os 1 [], .os 1 [],
 .os 1 []]) []) ( .al (.o 19 (.call 58 []) [.t 18]) ( .al (.o 22 (.call 58 []) [.t 21]) ( .take (.o 27 (.build [.v (.int .i64 (0)), .v (.int .i64 (0)), .os 1 [],
 .os 1 [], .os 1 [], .os 1 []] [(0, 3), (3, 1), (4, 1), (5, 1)]) [.t 16, .t 19, .t 22, .t 26]) <| .al (.s (.store 6) [.t 3, .t 27]) ( .done))))) <|
 .al (.o 3 (.alloc [.v (.int .i64 (0)), .v (.int .i64 (0)), .os 1 [], .os 1 [], .os 1 [],
 .os 1 []]) []) ( .al (.o 15 (.call 57 []) [.t 14]) ( .take (.o 16 (.build [.v (.int .i64 (0)), .v (.int .i64 (0)), .os 1 []] [(0, 1), (1, 1), (2, 1)]) [.t 8,
 .t 11, .t 15]) <| .al (.o 19 (.call 58 []) [.t 18]) ( .al (.o 22 (.call 58 []) [.t 21]) ( .take (.o 27 (.build [.v (.int .i64 (0)), .v (.int .i64 (0)),
 .os 1 [], .os 1 [], .os 1 [], .os 1 []] [(0, 3), (3, 1), (4, 1), (5, 1)]) [.t 16, .t 19, .t 22, .t 26]) <| .al (.s (.store 6) [.t 3, .t 27]) ( .done)))))) <|
 .al (.o 3 (.alloc [.v (.int .i64 (0)), .v (.int .i64 (0)), .os 1 [], .os 1 [], .os 1 [],
 .os 1 []]) []) ( .alt (.o 15 (.call 57 []) [.t 14]) ( .take (.o 16 (.build [.v (.int .i64 (0)), .v (.int .i64 (0)), .os 1 []] [(0, 1), (1, 1), (2, 1)]) [.t 8,
 .t 11, .t 15]) <| .alt (.o 19 (.call 58 []) [.t 18]) ( .alt (.o 22 (.call 58 []) [.t 21]) ( .al (.o 26 (.mksl 1 24 (.os 1 [])) [.t 25,
 .t 25]) ( .take (.o 27 (.build [.v (.int .i64 (0)), .v (.int .i64 (0)), .os 1 [], .os 1 [], .os 1 [], .os 1 []] [(0, 3), (3, 1), (4, 1), (5, 1)]) [.t 16, .t 19,
 .t 22, .t 26]) <| .al (.s (.store 6) [.t 3, .t 27]) ( .done))) <| .al (.o 26 (.mksl 1 24 (.os 1 [])) [.t 25,
 .t 25]) ( .al (.o 22 (.call 58 []) [.t 21]) ( .take (.o 27 (.build [.v (.int .i64 (0)), .v (.int .i64 (0)), .os 1 [], .os 1 [], .os 1 [], .os 1 []] [(0, 3), (3,
 1), (4, 1), (5, 1)]) [.t 16, .t 19, .t 22, .t 26]) <| .al (.s (.store 6) [.t 3, .t 27]) ( .done)))) <| .al (.o 26 (.mksl 1 24 (.os 1 [])) [.t 25,
 .t 25]) ( .al (.o 19 (.call 58 []) [.t 18]) ( .al (.o 22 (.call 58 []) [.t 21]) ( .take (.o 27 (.build [.v (.int .i64 (0)), .v (.int .i64 (0)), .os 1 [],
 .os 1 [], .os 1 [], .os 1 []] [(0, 3), (3, 1), (4, 1), (5, 1)]) [.t 16, .t 19, .t 22, .t 26]) <| .al (.s (.store 6) [.t 3, .t 27]) ( .done))))) <|
 .al (.o 26 (.mksl 1 24 (.os 1 [])) [.t 25, .t 25]) ( .al (.o 15 (.call 57 []) [.t 14]) ( .take (.o 16 (.build [.v (.int .i64 (0)), .v (.int .i64 (0)),
 .os 1 []] [(0, 1), (1, 1), (2, 1)]) [.t 8, .t 11, .t 15]) <|
 .al (.o 19 (.call 58 []) [.t 18]) ( .al (.o 22 (.call 58 []) [.t 21]) ( .take (.o 27 (.build [.v (.int .i64 (0)), .v (.int .i64 (0)), .os 1 [], .os 1 [],
 .os 1 [], .os 1 []] [(0, 3), (3, 1), (4, 1), (5, 1)]) [.t 16, .t 19, .t 22, .t 26]) <| .al (.s (.store 6) [.t 3, .t 27]) ( .done)))))))) <| .base (.gc [] [1, 2,
 3] c_impl_Book_copyOf_T1)

theorem k_impl_Book_copyOf : cFnB Tryz.prog n_impl_Book_copyOf 44 [.c 2 true 6] c_impl_Book_copyOf_E := ⟨Tryz.f64, _, Tryz.func64, rfl, by kernel_rfl, by kernel_rfl, by kernel_rfl, by kernel_rfl⟩

end Go.Proofs.Dev

namespace Go.Proofs.Dev
set_option linter.unusedSimpArgs false
set_option maxRecDepth 100000

def arV (a b c d : Int) : AV := .agg [.v (.int .i64 a), .v (.int .i64 b), .v (.int .i64 c), .v (.int .i64 d)]
def arR (W T c : Int) : AV := if midB W T c = true then .tup [arV (swI W c) (swI W c + 1) (swI W c + W) (swI W c + W + 1), .v (.bool true)] else .tup [arV 0 0 0 0, .v (.bool false)]

theorem s_impl_Region_around (W T : Int) (cs : List Bool) (c : Int) (hr : regB W T cs = true) (h1 : c ≤ 9223372036854775807) :
    SoundAt Tryz.prog n_impl_Region_around [.agg [.v (.int .i64 W), .v (.int .i64 T), .sl 1 1 (bools cs)], .v (.int .i64 c)] (arR W T c) [.bot, .bot] := by
  obtain ⟨w1, w2, t1, t2, l1, _⟩ := regB_W hr
  have h36 := regB_len hr
  have w0 : 1 ≤ W + 1 := by omega
  by_cases h0 : 0 ≤ c
  case neg =>
    have hm : midB W T c = false := by simp [midB]; omega
    have hc : c < 0 := by omega
    refine fn_okB (md := md0) (ms := [false, false]) kn_impl_Region_around (by simp) ?_
    simp [c_impl_Region_around_N]
    refine ⟨by omega, ?_⟩
    refine awpC_quo (.inr rfl) ?_
    simp [calmK, w0]
    refine ⟨by omega, ?_⟩
    refine awpC_quo (.inl rfl) ?_
    simp [calmK, w0, c_impl_Region_around_T0, hc, arR, hm, arV]
  have m1 := Int.emod_nonneg c (show W + 1 ≠ 0 by omega)
  have m2 := Int.emod_lt_of_pos c (show 0 < W + 1 by omega)
  have m3 := Int.ediv_nonneg h0 (show 0 ≤ W + 1 by omega)
  have m4 := Int.ediv_le_self (W + 1) h0
  refine fn_ok (md := md0) (ms := [false, false]) k_impl_Region_around (by simp) ?_
  have hsw := @sw_at W T c w1
  have hsd : swI W c = (c / (W + 1) - 1) * W + c % (W + 1) - 1 := rfl
  have hc : ¬ c < 0 := by omega
  by_cases hx : 1 ≤ c % (W + 1) ∧ c % (W + 1) ≤ W - 1
  case neg =>
    have hm : midB W T c = false := by simp [midB]; omega
    simp [c_impl_Region_around, h0, w0]
    (repeat' first | omega | apply And.intro) <;>
    · simp [c_impl_Region_around_T0, hc]
      refine ⟨by omega, ?_⟩
      refine call_on (s_impl_in_f (x := c % (W + 1)) (lo := 1) (hi := W - 1) hx) ?_
      simp [arR, hm, arV]
  by_cases hy : 1 ≤ c / (W + 1) ∧ c / (W + 1) ≤ T - 1
  case neg =>
    have hm : midB W T c = false := by simp [midB]; omega
    simp [c_impl_Region_around, h0, w0]
    (repeat' first | omega | apply And.intro) <;>
    · simp [c_impl_Region_around_T0, hc]
      refine ⟨by omega, ?_⟩
      refine call_on (s_impl_in_t (x := c % (W + 1)) (lo := 1) (hi := W - 1) hx) ?_
      simp
      refine ⟨by omega, ?_⟩
      refine call_on (s_impl_in_f (x := c / (W + 1)) (lo := 1) (hi := T - 1) hy) ?_
      simp [arR, hm, arV]
  have hm : midB W T c = true := by simp [midB]; omega
  have hs := hsw hm
  have hz : swI W c = (c / (W + 1) - 1) * W + c % (W + 1) - 1 := hsd
  rw [hz] at hs
  simp [c_impl_Region_around, h0, w0]
  (repeat' first | omega | apply And.intro) <;>
  · simp [c_impl_Region_around_T0, hc]
    refine ⟨by omega, ?_⟩
    refine call_on (s_impl_in_t (x := c % (W + 1)) (lo := 1) (hi := W - 1) hx) ?_
    simp
    refine ⟨by omega, ?_⟩
    refine call_on (s_impl_in_t (x := c / (W + 1)) (lo := 1) (hi := T - 1) hy) ?_
    simp [arR, hm, arV, hz]
    generalize (c / (W + 1) - 1) * W = z at *
    (repeat' first | omega | rfl | apply And.intro)
end Go.Proofs.Dev

namespace Go.Proofs.Dev
set_option linter.unusedSimpArgs false
set_option maxRecDepth 100000

@[simp] theorem awpEarly_some {P : Program} {md : Nat → List Bool} {K : ES → Heap → Prop} {E : ES} {H : Heap} {dst : Option Nat} {k : AK} {xs : List Opd} {s : Nat} {w : Bool} {os : List AOper} {p : Plan} :
    awpEarly P md (⟨dst, k, xs, some (s, w)⟩ :: os) p K E H = (viewOk ⟨dst, k, xs, some (s, w)⟩ E ∧ guardK P md ⟨dst, k, xs, some (s, w)⟩ s w (awpEarly P md os p K) E H (get E s)) := (rfl)

set_option maxHeartbeats 4000000 in
theorem s_impl_Region_flippable (W T : Int) (cs : List Bool) (ls : List Int) (c : Int) (hr : regB W T cs = true) (hl : ls.length = cs.length) (h1 : c ≤ 9223372036854775807) :
    SoundAt Tryz.prog n_impl_Region_flippable [.agg [.v (.int .i64 W), .v (.int .i64 T), .sl 1 1 (bools cs)], .sl 1 1 (ints ls), .v (.int .i64 c)]
      (.tup [.v (.bool (midB W T c && flatB W ls c)), .v (.bool (midB W T c && upB W ls c))]) [.bot, .bot, .bot] := by
  obtain ⟨w1, w2, t1, t2, l1, _⟩ := regB_W hr
  have h36 := regB_len hr
  have ar := s_impl_Region_around W T cs c hr h1
  refine fn_okB (md := md0) (ms := [false, false, false]) k_impl_Region_flippable (by simp) ?_
  simp [c_impl_Region_flippable_E]
  refine call_on ar ?_
  cases hm : midB W T c with
  | false => simp [arR, hm, arV]
  | true =>
    have hs := sw_at w1 hm
    have q0 := hs.1
    have q1 : swI W c < ls.length := by omega
    have q2 : 0 ≤ swI W c + W := by omega
    have q3 : swI W c + W < ls.length := by omega
    have q4 : 0 ≤ swI W c + 1 := by omega
    have q5 : swI W c + 1 < ls.length := by omega
    simp [arR, hm, arV]
    refine frz_on rfl rfl rfl ?_
    unfold flatB upB
    by_cases e1 : ati ls (swI W c) = 1
    · have e2 : ¬ ati ls (swI W c) = 2 := by omega
      simp [q0, q1, q2, q3, q4, q5, e1, e2]
      by_cases e3 : ati ls (swI W c + W) = 1 <;> simp [e3]
    · by_cases e2 : ati ls (swI W c) = 2
      · simp [q0, q1, q2, q3, q4, q5, e1, e2]
        by_cases e3 : ati ls (swI W c + 1) = 2 <;> simp [e3]
      · simp [q0, q1, q2, q3, q4, q5, e1, e2]

set_option maxHeartbeats 4000000 in
theorem s_impl_Region_flip (W T : Int) (cs : List Bool) (ls : List Int) (c : Int) (hr : regB W T cs = true) (hl : ls.length = cs.length) (h1 : c ≤ 9223372036854775807) :
    SoundAt Tryz.prog n_impl_Region_flip [.agg [.v (.int .i64 W), .v (.int .i64 T), .sl 1 1 (bools cs)], .sl 1 1 (ints ls), .v (.int .i64 c)]
      (.tup [.os 1 (ints (flipI W T ls c)), .v (.bool (flipB W T ls c))]) [.bot, .bot, .bot] := by
  obtain ⟨w1, w2, t1, t2, l1, _⟩ := regB_W hr
  have h36 := regB_len hr
  have ar := s_impl_Region_around W T cs c hr h1
  have fl := s_impl_Region_flippable W T cs ls c hr hl h1
  refine fn_okB (md := md0) (ms := [false, false, false]) k_impl_Region_flip (by simp) ?_
  simp [c_impl_Region_flip_E]
  refine call_on (s_impl_clone_int ls (by omega)) ?_
  simp
  refine call_on fl ?_
  simp
  refine call_on ar ?_
  have htl : (ints ls).take ls.length = ints ls := take_ints_all ls
  cases hm : midB W T c with
  | false =>
    have e : flipI W T ls c = ls := by simp [flipI, flipB, hm]
    have e2 : flipB W T ls c = false := by simp [flipB, hm]
    simp [arR, hm, arV, e, e2]
    refine frz_on rfl rfl rfl ?_
    simp [htl]
  | true =>
    have hs := sw_at w1 hm
    have hW2 : 2 ≤ W := by
      obtain ⟨x, y, x0, x1, _⟩ := mid_at w1 hm
      omega
    have q0 := hs.1
    have q1 : swI W c < ls.length := by omega
    have q2 : 0 ≤ swI W c + W := by omega
    have q3 : swI W c + W < ls.length := by omega
    have q4 : 0 ≤ swI W c + 1 := by omega
    have q5 : swI W c + 1 < ls.length := by omega
    have q6 : 0 ≤ swI W c + W + 1 := by omega
    have q7 : swI W c + W + 1 < ls.length := by omega
    simp [arR, hm, arV]
    refine frz_on rfl rfl rfl ?_
    cases hF : flatB W ls c with
    | true =>
      have e2 : flipB W T ls c = true := by simp [flipB, hm, hF]
      have e : flipI W T ls c = set4 ls (swI W c) W 2 2 4 4 := by unfold flipI; rw [if_pos e2, if_pos hF]
      have ht : (ints (set4 ls (swI W c) W 2 2 4 4)).take ls.length = ints (set4 ls (swI W c) W 2 2 4 4) := List.take_of_length_le (by simp [set4_length])
      have hlen := set4_length ls (swI W c) W 2 2 4 4
      rw [e, e2]
      unfold set4 at *
      simp [q0, q1, q2, q3, q4, q5, q6, q7, ints_set, ht]
    | false =>
      cases hU : upB W ls c with
      | true =>
        have e2 : flipB W T ls c = true := by simp [flipB, hm, hU]
        have e : flipI W T ls c = set4 ls (swI W c) W 1 3 1 3 := by unfold flipI; rw [if_pos e2, if_neg (by rw [hF]; decide)]
        have ht : (ints (set4 ls (swI W c) W 1 3 1 3)).take ls.length = ints (set4 ls (swI W c) W 1 3 1 3) := List.take_of_length_le (by simp [set4_length])
        rw [e, e2]
        unfold set4 at *
        simp [q0, q1, q2, q3, q4, q5, q6, q7, ints_set, ht]
      | false =>
        have e2 : flipB W T ls c = false := by simp [flipB, hF, hU]
        have e : flipI W T ls c = ls := by simp [flipI, e2]
        rw [e, e2]
        simp [htl]
end Go.Proofs.Dev

namespace Go.Proofs.Dev
set_option linter.unusedSimpArgs false
set_option maxRecDepth 100000

theorem s_slices_Equal (xs ys : List Int) (ha : xs.length < 2 ^ 40) :
    SoundAt Tryz.prog n_slices_Equal_int_int [.sl 1 1 (ints xs), .sl 1 1 (ints ys)] (.v (.bool (decide (xs = ys)))) [.bot, .bot] := by
  refine fn_ok (md := md0) (ms := [false, false]) k_slices_Equal_int_int (by simp) ?_
  simp [c_slices_Equal_int_int]
  refine ⟨fun h => ?_, fun hl => ?_⟩
  · intro e; subst e; exact h rfl
  refine loop_by (fun m E H => ∃ i : Nat, m = xs.length - i ∧ i ≤ xs.length ∧ xs.take i = ys.take i ∧ H = [] ∧ E = [(0, .sl 1 1 (ints xs)), (1, .sl 1 1 (ints ys)), (12, .v (.int .i64 xs.length)), (13, .v (.int .i64 i))]) xs.length ⟨0, by simp⟩ ?_
  rintro J hJ m E H ⟨i, rfl, hi, he, rfl, rfl⟩
  by_cases h : i < xs.length
  case neg =>
    have h1 : i = xs.length := by omega
    subst h1
    have e : xs = ys := by
      rw [List.take_length] at he
      rw [he]; exact List.take_of_length_le (by omega)
    simp [c_slices_Equal_int_int_L0, e]
  have h2 : i < ys.length := by omega
  have key : (ati xs i = ati ys i) → xs.take (i + 1) = ys.take (i + 1) := by
    intro e
    rw [List.take_succ_eq_append_getElem h, List.take_succ_eq_append_getElem (by omega), he]
    simp [ati, h, h2] at e
    rw [e]
  have key2 : ¬ (ati xs i = ati ys i) → ¬ xs = ys := fun e e2 => e (by rw [e2])
  by_cases e : ati xs i = ati ys i
  · simp [c_slices_Equal_int_int_L0, h, h2, e]
    exact ⟨by omega, _, by omega, hJ _ _ _ ⟨i + 1, rfl, h, key e, rfl, rfl⟩⟩
  · simp [c_slices_Equal_int_int_L0, h, h2, e, key2 e]

abbrev cpH (W T : Int) (cs : List Bool) (ds ls : List Int) (qs : List (List Int)) : Heap :=
  [some (.box [.v (.int .i64 0), .v (.int .i64 0), .os 1 [], .os 1 [], .os 1 [], .os 1 []]), some (.box (bkcs 2 W T cs ds ls qs)),
    some (.arr 1 (bools cs)), some (.arr 1 (ints ds)), some (.arr 1 (ints ls)), some (.arr 1 (oss qs))]
def cpP (ps : List (List Int)) (i : Nat) : List (List Int) := ps.take i ++ List.replicate (ps.length - i) []
theorem cpP_length (ps : List (List Int)) {i : Nat} (h : i ≤ ps.length) : (cpP ps i).length = ps.length := by simp [cpP]; omega
theorem cpP_set (ps : List (List Int)) {i : Nat} (h : i < ps.length) : (oss (cpP ps i)).set i (.os 1 (ints (pti ps i))) = oss (cpP ps (i + 1)) := by
  unfold oss
  rw [← List.map_set]
  congr 1
  unfold cpP
  rw [List.set_append_right _ _ (by simp; omega), show i - (ps.take i).length = 0 by simp; omega, show ps.length - i = (ps.length - (i + 1)) + 1 by omega, List.replicate_succ, List.set_cons_zero,
    pti_get h]
  have e : ps.take (i + 1) = ps.take i ++ [ps[i]] := List.take_succ_eq_append_getElem h
  rw [e, List.append_assoc]; rfl

theorem cp_L0 (W T : Int) (cs : List Bool) (ds ls : List Int) (ps : List (List Int)) (hb : ps.length ≤ 100) (hp : ∀ p ∈ ps, p.length ≤ 100) (Qc : AExit → ES → Heap → Prop)
    (hend : ∀ E : ES, get E 2 = .lp 0 0 0 0 → get E 3 = .lp 0 1 0 0 → Qc (.exit 0) E (cpH W T cs ds ls ps)) :
    loopNode [(29, 1)] [2, 3, 29, 30, 31] (awp Tryz.prog mdo c_impl_Book_copyOf_L0) Qc [(2, .lp 0 0 0 0), (3, .lp 0 1 0 0), (29, .sl 1 1 (sls 1 ps)), (30, .v (.int .i64 ps.length)), (31, .v (.int .i64 0))] (cpH W T cs ds ls (cpP ps 0)) := by
  refine loop_by (fun m E H => ∃ i : Nat, m = ps.length - i ∧ i ≤ ps.length ∧ E = [(2, .lp 0 0 0 0), (3, .lp 0 1 0 0), (29, .sl 1 1 (sls 1 ps)), (30, .v (.int .i64 ps.length)), (31, .v (.int .i64 i))] ∧ H = cpH W T cs ds ls (cpP ps i)) ps.length ⟨0, by simp⟩ ?_
  rintro J hJ m E H ⟨i, rfl, hi, rfl, rfl⟩
  have hl := cpP_length ps hi
  by_cases h : i < ps.length
  case neg =>
    have h1 : i = ps.length := by omega
    subst h1
    have e : cpP ps ps.length = ps := by simp [cpP]
    simp [c_impl_Book_copyOf_L0]
    rw [e]
    exact hend _ rfl rfl
  have hpi : (pti ps i).length ≤ 100 := by rw [pti_get h]; exact hp _ (List.getElem_mem h)
  have hset := cpP_set ps h
  have hl2 := cpP_length ps (show i + 1 ≤ ps.length by omega)
  have nx := hJ (ps.length - (i + 1)) _ _ ⟨i + 1, rfl, h, rfl, rfl⟩
  simp only [cpH, bkcs, hl2, ← hset, Int.natCast_add, Int.natCast_one] at nx
  simp [c_impl_Book_copyOf_L0, h]
  (repeat' first | omega | apply And.intro) <;>
  · refine call_on (s_impl_clone_int (pti ps i) (by omega)) ?_
    simp [h, hl]
    exact ⟨by omega, _, by omega, nx⟩

set_option maxHeartbeats 8000000 in
theorem s_impl_Book_copyOf (W T : Int) (cs : List Bool) (ds ls : List Int) (ps : List (List Int)) (hc : cs.length ≤ 100) (hd : ds.length ≤ 100) (hl : ls.length ≤ 100) (hb : ps.length ≤ 100) (hp : ∀ p ∈ ps, p.length ≤ 100) :
    SoundAt Tryz.prog n_impl_Book_copyOf [bkA W T cs ds ls ps] (bkO W T cs ds ls ps) [.bot] := by
  refine fn_okB (md := mdo) (ms := [false]) k_impl_Book_copyOf (by simp) ?_
  have t1 : (ints ds).take ds.length = ints ds := take_ints_all ds
  have t2 : (ints ls).take ls.length = ints ls := take_ints_all ls
  have t3 : (oss ps).take ps.length = oss ps := List.take_of_length_le (by simp [oss])
  have e0 : List.replicate ps.length (AV.os 1 []) = oss (cpP ps 0) := by simp [cpP, oss]
  have hl0 : (cpP ps 0).length = ps.length := cpP_length ps (by omega)
  have lp := cp_L0 W T cs ds ls ps hb hp
  simp only [cpH, bkcs, hl0, ← e0] at lp
  simp [c_impl_Book_copyOf_E]
  refine frz_on rfl rfl rfl ?_
  simp
  (repeat' first | omega | apply And.intro) <;>
  · refine call_on (s_impl_clone_bool cs (by omega)) ?_
    simp
    (repeat' first | omega | apply And.intro) <;>
    · refine call_on (s_impl_clone_int ds (by omega)) ?_
      simp
      (repeat' first | omega | apply And.intro) <;>
      · refine call_on (s_impl_clone_int ls (by omega)) ?_
        simp [c_impl_Book_copyOf_T1]
        (repeat' first | omega | apply And.intro) <;>
        · refine lp _ ?_
          intro E e2 e3
          simp [e2, e3, t1, t2, t3]
end Go.Proofs.Dev

namespace Go.Proofs.Dev
set_option linter.unusedSimpArgs false
set_option maxRecDepth 100000

theorem next_lays {W T : Int} {cs : List Bool} {ds ls : List Int} {k s w : Int} (hf : fairB W T cs ds ls = true) (hk : k = 0 ∨ k = 1 ∨ k = 2 ∨ k = 3) : laysB W T cs (nextL W T cs ds ls k s w) = true := by
  obtain ⟨hr, hd, hy, ho⟩ := fair_parts hf
  unfold nextL
  split
  · unfold layOneL
    split
    · rename_i h; exact lay_ok hr hy h
    · exact hy
  split
  · split
    · rename_i h
      simp only [liftHas, decide_eq_true_eq] at h
      have := lift_ok (k := s.toNat) hr hy (by omega) (by rw [show ((s.toNat : Nat) : Int) = s by omega]; exact h.2.2)
      rw [show ((s.toNat : Nat) : Int) = s by omega] at this
      exact this
    · exact hy
  split
  · by_cases hfl : flipB W T ls s = true
    · exact (flip_ok hr hy hfl).2
    · have e : flipI W T ls s = ls := by simp [flipI, hfl]
      rw [e]; exact hy
  split
  · exact (fair_parts (forceAll_facts hf).1).2.2.1
  · omega

theorem s_impl_Book_do (W T : Int) (cs : List Bool) (ds ls : List Int) (ps : List (List Int)) (k s w : Int) (h : bookB W T cs ds ls ps = true) (hs : s ≤ 9223372036854775807) :
    SoundAt Tryz.prog n_impl_Book_do [boxO W T cs ds ls ps, deedV k s w] (.v (.bool (doI W T cs ds ls ps k s w).1)) [boxO W T cs ds (doI W T cs ds ls ps k s w).2.1 (doI W T cs ds ls ps k s w).2.2, .bot] := by
  obtain ⟨hf, h20, hpf⟩ := book_parts h
  obtain ⟨hr, hdg, hy, ho⟩ := fair_parts hf
  obtain ⟨l36, ld, ll⟩ := fair_len hf
  have hnl := nextL_length W T cs ds ls k s w
  unfold doI
  refine s_impl_do k_impl_Book_do W T cs ds ls (nextL W T cs ds ls k s w) ps k s w (needB (k, s, w)) (nextB W T cs ds ls k s w) (fairB W T cs ds (nextL W T cs ds ls k s w)) (by omega) (by omega) (by omega) (s_impl_Deed_needs (k, s, w)) ?_ ?_ (fun us h1 h2 => s_impl_clone_raw us h1 h2)
  · intro hn hk4
    have hk : k = 0 ∨ k = 1 ∨ k = 2 ∨ k = 3 := by have := needB_kind hn; omega
    have h0 := s_impl_LayOne W T cs ls s w (by omega) (by omega)
    have h1 := s_impl_LiftOne W T cs ls s (by omega) (by omega)
    have h2 := s_impl_Region_flip W T cs ls s hr ll hs
    have h3 := s_impl_Region_forceAll W T cs ds ls hf
    have h4 := s_slices_Equal (forceAllI W T cs ds ls) ls (by rw [forceAllI_length]; omega)
    have := s_impl_laidBy k_impl_Book_laidBy W T cs ds ls _ _ _ _ ps k s w _ _ _ _ h0 h1 h2 h3 h4
    have e : byRes k (layR W T cs ls s w) (liftR W T cs ls s) (flipI W T ls s) (forceAllI W T cs ds ls) (layRB W T cs ls s w) (liftRB W T cs ls s) (flipB W T ls s) (!decide (forceAllI W T cs ds ls = ls)) =
        (nextL W T cs ds ls k s w, nextB W T cs ds ls k s w) := by
      rcases hk with rfl | rfl | rfl | rfl
      · simp [byRes, nextL, nextB, layR, layRB, hr, hy]
      · simp [byRes, nextL, nextB, liftR, liftRB, hr, hy]
      · simp [byRes, nextL, nextB]
      · simp [byRes, nextL, nextB]
    rw [e] at this
    exact this
  · intro hn hk4
    have hk : k = 0 ∨ k = 1 ∨ k = 2 ∨ k = 3 := by have := needB_kind hn; omega
    have hy2 := next_lays (s := s) (w := w) hf hk
    have hok : okB W T cs ds (nextL W T cs ds ls k s w) = true := by simp [okB, hr, hdg, hy2]
    have e : fairB W T cs ds (nextL W T cs ds ls k s w) = onceB (pairsI W T ds (nextL W T cs ds ls k s w)) := by simp [fairB, hok]
    rw [e]
    exact s_impl_Region_fair W T cs ds _ hok

theorem s_impl_BookDoA (W T : Int) (cs : List Bool) (ds ls : List Int) (ps : List (List Int)) (k s w : Int) (hc : cs.length ≤ 2 ^ 30) (hd : ds.length ≤ 2 ^ 30) (hl : ls.length ≤ 2 ^ 30) (hb : ps.length ≤ 2 ^ 30) (hp : ∀ p ∈ ps, p.length ≤ 2 ^ 30) (hs : s ≤ 9223372036854775807) :
    SoundAt Tryz.prog n_impl_BookDo [bkA W T cs ds ls ps, deedV k s w]
      (.tup [if bookB W T cs ds ls ps = true then bkO W T cs ds (doI W T cs ds ls ps k s w).2.1 (doI W T cs ds ls ps k s w).2.2 else bkO 0 0 [] [] [] [], .v (.bool (bookB W T cs ds ls ps && (doI W T cs ds ls ps k s w).1))]) [.bot, .bot] := by
  refine s_impl_BookDo k_impl_BookDo W T cs ds ls ps k s w (bookB W T cs ds ls ps) (doI W T cs ds ls ps k s w).1 (doI W T cs ds ls ps k s w).2.1 (doI W T cs ds ls ps k s w).2.2
    (s_impl_BookValid W T cs ds ls ps (by omega) (by omega) (by omega) (by omega) (fun p h => by have := hp p h; omega)) ?_ ?_
  · intro h
    obtain ⟨hf, h20, hpf⟩ := book_parts h
    obtain ⟨l36, ld, ll⟩ := fair_len hf
    exact s_impl_Book_copyOf W T cs ds ls ps (by omega) (by omega) (by omega) (by omega) (fun p hp => by have := fair_len (hpf p hp); omega)
  · intro h
    exact s_impl_Book_do W T cs ds ls ps k s w h hs
end Go.Proofs.Dev

namespace Go.Proofs.Dev
set_option linter.unusedSimpArgs false
set_option maxRecDepth 100000

theorem s_laws_sameBools (xs ys : List Bool) (ha : xs.length < 2 ^ 40) :
    SoundAt Tryz.prog n_laws_sameBools [.sl 1 1 (bools xs), .sl 1 1 (bools ys)] (.v (.bool (decide (xs = ys)))) [.bot, .bot] := by
  refine fn_ok (md := md0) (ms := [false, false]) k_laws_sameBools (by simp) ?_
  simp [c_laws_sameBools]
  refine ⟨fun h => ?_, fun hl => ?_⟩
  · intro e; subst e; exact h rfl
  refine loop_by (fun m E H => ∃ i : Nat, m = xs.length - i ∧ i ≤ xs.length ∧ xs.take i = ys.take i ∧ H = [] ∧ E = [(0, .sl 1 1 (bools xs)), (1, .sl 1 1 (bools ys)), (5, .v (.int .i64 i))]) xs.length ⟨0, by simp⟩ ?_
  rintro J hJ m E H ⟨i, rfl, hi, he, rfl, rfl⟩
  by_cases h : i < xs.length
  case neg =>
    have h1 : i = xs.length := by omega
    subst h1
    have e : xs = ys := by
      rw [List.take_length] at he
      rw [he]; exact List.take_of_length_le (by omega)
    simp [c_laws_sameBools_L0, e]
  have h2 : i < ys.length := by omega
  have key : (atb xs i = atb ys i) → xs.take (i + 1) = ys.take (i + 1) := by
    intro e
    rw [List.take_succ_eq_append_getElem h, List.take_succ_eq_append_getElem (by omega), he]
    simp [atb, h, h2] at e
    rw [e]
  have key2 : ¬ (atb xs i = atb ys i) → ¬ xs = ys := fun e e2 => e (by rw [e2])
  by_cases e : atb xs i = atb ys i
  · simp [c_laws_sameBools_L0, h, h2, e]
    exact ⟨by omega, _, by omega, hJ _ _ _ ⟨i + 1, rfl, h, key e, rfl, rfl⟩⟩
  · have e2 : (atb xs i == atb ys i) = false := by simpa using e
    simp [c_laws_sameBools_L0, h, h2, e, e2, key2 e]

def sameR (W T : Int) (cs : List Bool) (W2 T2 : Int) (cs2 : List Bool) : Bool := (decide (W = W2) && decide (T = T2)) && decide (cs = cs2)
def sameK (W T : Int) (cs : List Bool) (ds ls : List Int) (ps : List (List Int)) (W2 T2 : Int) (cs2 : List Bool) (ds2 ls2 : List Int) (ps2 : List (List Int)) : Bool :=
  ((sameR W T cs W2 T2 cs2 && decide (ds = ds2)) && decide (ls = ls2)) && decide (ps = ps2)
theorem sameR_self (W T : Int) (cs : List Bool) : sameR W T cs W T cs = true := by simp [sameR]
theorem sameK_self (W T : Int) (cs : List Bool) (ds ls : List Int) (ps : List (List Int)) : sameK W T cs ds ls ps W T cs ds ls ps = true := by simp [sameK, sameR]

theorem s_laws_sameRegion (W T : Int) (cs : List Bool) (W2 T2 : Int) (cs2 : List Bool) (ha : cs.length < 2 ^ 40) :
    SoundAt Tryz.prog n_laws_sameRegion [.agg [.v (.int .i64 W), .v (.int .i64 T), .sl 1 1 (bools cs)], .agg [.v (.int .i64 W2), .v (.int .i64 T2), .sl 1 1 (bools cs2)]] (.v (.bool (sameR W T cs W2 T2 cs2))) [.bot, .bot] := by
  refine fn_ok (md := md0) (ms := [false, false]) k_laws_sameRegion (by simp) ?_
  unfold sameR
  by_cases h1 : W = W2
  · by_cases h2 : T = T2
    · simp [c_laws_sameRegion, h1, h2]
      refine call_on (s_laws_sameBools cs cs2 ha) ?_
      simp
    · simp [c_laws_sameRegion, h1, h2]
  · simp [c_laws_sameRegion, h1]

theorem s_laws_sameBook (W T : Int) (cs : List Bool) (ds ls : List Int) (ps : List (List Int)) (W2 T2 : Int) (cs2 : List Bool) (ds2 ls2 : List Int) (ps2 : List (List Int))
    (hc : cs.length < 2 ^ 40) (hd : ds.length < 2 ^ 40) (hl : ls.length < 2 ^ 40) (hb : ps.length < 2 ^ 40) (hp : ∀ p ∈ ps, p.length < 2 ^ 40) :
    SoundAt Tryz.prog n_laws_sameBook [bkA W T cs ds ls ps, bkA W2 T2 cs2 ds2 ls2 ps2] (.v (.bool (sameK W T cs ds ls ps W2 T2 cs2 ds2 ls2 ps2))) [.bot, .bot] := by
  refine fn_ok (md := md0) (ms := [false, false]) k_laws_sameBook (by simp) ?_
  have one := s_laws_sameRegion W T cs W2 T2 cs2 hc
  have two := s_laws_sameInts ds ds2 hd
  have three := s_laws_sameInts ls ls2 hl
  have four := s_laws_sameLists ps ps2 hb hp
  unfold sameK
  simp [c_laws_sameBook]
  refine call_on one ?_
  cases sameR W T cs W2 T2 cs2 with
  | false => simp
  | true =>
  simp
  refine call_on two ?_
  by_cases h2 : ds = ds2
  case neg => simp [h2]
  simp [h2]
  refine call_on three ?_
  by_cases h3 : ls = ls2
  case neg => simp [h3]
  simp [h3]
  refine call_on four ?_
  simp

theorem s_laws_noBook (W T : Int) (cs : List Bool) (ds ls : List Int) (ps : List (List Int)) (hc : cs.length < 2 ^ 40) (hd : ds.length < 2 ^ 40) (hl : ls.length < 2 ^ 40) (hb : ps.length < 2 ^ 40) (hp : ∀ p ∈ ps, p.length < 2 ^ 40) :
    SoundAt Tryz.prog n_laws_noBook [bkA W T cs ds ls ps] (.v (.bool (sameK W T cs ds ls ps 0 0 [] [] [] []))) [.bot] := by
  refine fn_ok (md := md0) (ms := [false]) k_laws_noBook (by simp) ?_
  simp [c_laws_noBook]
  have := s_laws_sameBook W T cs ds ls ps 0 0 [] [] [] [] hc hd hl hb hp
  simp only [bkA, bools_nil, ints_nil, show sls 1 [] = [] from rfl] at this
  refine call_on this ?_
  simp
end Go.Proofs.Dev

namespace Go.Proofs.Dev
set_option linter.unusedSimpArgs false
set_option maxRecDepth 100000

def drawPN (r : AV) (ups : List AV) : Prop := ∃ (W T : Int) (cs : List Bool) (ds : List Int), r = .tup [regA W T cs, .os 1 (ints ds)] ∧ cs.length ≤ 37 ∧ ds.length ≤ 37 ∧ ups = [.bot]

theorem s_spec_DrawBookNew (bs : List Int) (hb : bs.length ≤ 2 ^ 60) (hB : Byt bs) : SoundSet Tryz.prog n_spec_DrawBookNew [.sl 0 1 (u8s bs)] drawPN := by
  refine fn_okS (md := md8) (ms := [false]) k_spec_DrawBookNew (by simp) ?_
  simp [c_spec_DrawBookNew]
  refine call_on (s_spec_l20Open bs hb) ?_
  simp
  refine call_onK (s_spec_l20Puzzle (bs.take 2000) 0 4 (by simp; omega) (byt_take hB 2000) (by omega) (by omega) (by omega)) [1] (by simp) (by simp) (by simp) ?_
  rintro _ _ ⟨W, T, cs, ds, q, rfl, hcs, hds, hq, rfl⟩
  simp [regA]
  refine ⟨_, _, ⟨W, T, cs, ds, rfl, hcs, hds, rfl⟩, ?_⟩
  simp [regA]

abbrev bnH (W T : Int) (cs : List Bool) (ds : List Int) (W2 T2 : Int) (cs2 : List Bool) (ds2 ls2 : List Int) : Heap :=
  [some (.box [.v (.int .i64 W), .v (.int .i64 T), .ls 1 3 0 cs.length]), some (.arr 1 (ints ds)), some (.box (bkcs 4 W2 T2 cs2 ds2 ls2 [])), some (.arr 1 (bools cs)), some (.arr 1 (bools cs2)), some (.arr 1 (ints ds2)), some (.arr 1 (ints ls2)), some (.arr 1 (oss []))]
abbrev bnE (ds : List Int) : ES := [(3, .lp 0 0 0 0), (4, .ls 1 1 0 ds.length), (5, .lp 0 2 0 0)]

theorem bn_false (W T : Int) (cs : List Bool) (ds : List Int) (hcs : cs.length ≤ 37) (hds : ds.length ≤ 37) (hv : (regB W T cs && digsB cs ds) = false) :
    awp Tryz.prog md8 c_laws_FnBookNew_T0 (Fin [RV.t 2] 59 1 [false] (.v (.bool true)) [.bot]) (bnE ds) (bnH W T cs ds 0 0 [] [] []) := by
  have three := s_spec_PuzzleValid W T cs ds (by omega) (by omega)
  rw [hv] at three
  have no := s_laws_noBook 0 0 [] [] [] [] (by simp) (by simp) (by simp) (by simp) (by simp)
  rw [sameK_self] at no
  simp [c_laws_FnBookNew_T0]
  refine call_on three ?_
  simp
  refine call_on no ?_
  simp
  refine call_on s_laws_alive ?_
  simp

theorem bn_true (W T : Int) (cs : List Bool) (ds : List Int) (hcs : cs.length ≤ 37) (hds : ds.length ≤ 37) (hr : regB W T cs = true) (hd : digsB cs ds = true) :
    awp Tryz.prog md8 c_laws_FnBookNew_T0 (Fin [RV.t 2] 59 1 [false] (.v (.bool true)) [.bot]) (bnE ds) (bnH W T cs ds W T cs ds (noneL cs)) := by
  have three := s_spec_PuzzleValid W T cs ds (by omega) (by omega)
  rw [hr, hd] at three
  have hf := bare_fair hr hd
  have hok : bookB W T cs ds (noneL cs) [] = true := book_of hf (by simp) (by simp)
  have hnl : (noneL cs).length = cs.length := by simp [noneL]
  have bd := s_impl_BookDoA W T cs ds (noneL cs) [] 4 0 0 (by omega) (by omega) (by omega) (by simp) (by simp) (by decide)
  have ed : doI W T cs ds (noneL cs) [] 4 0 0 = (false, noneL cs, []) := by unfold doI; rw [show needB (4, 0, 0) = true from rfl, doRes_none]
  rw [hok, ed] at bd
  have va := s_impl_BookValid W T cs ds (noneL cs) [] (by omega) (by omega) (by omega) (by simp) (by simp)
  rw [hok] at va
  have cl := s_impl_CellsLeft W T cs ds (noneL cs) [] (by omega) (by omega) (by omega) (by simp) (by simp)
  have el : leftI W T cs ds (noneL cs) [] = manyOf cs := by
    have h0 : domN (noneL cs) = 0 := by simp [domN, noneL, List.countP_replicate, isDom]
    simp [leftI, hok, h0]
  rw [el] at cl
  have cm := s_impl_CellsMany W T cs (by omega)
  rw [if_pos hr] at cm
  simp only [if_true] at bd
  generalize noneL cs = ls at *
  simp [c_laws_FnBookNew_T0]
  refine call_on three ?_
  simp
  refine call_on bd ?_
  simp
  refine call_on va ?_
  simp
  repeat' first
    | omega
    | apply And.intro
    | (refine call_on cl ?_
       simp
       done)
    | (refine call_on cl ?_
       simp
       (repeat' first | omega | apply And.intro) <;>
       · refine call_on cm ?_
         simp)

theorem l_FnBookNew (bs : List Int) (hB : Byt bs) : SoundAt Tryz.prog n_laws_FnBookNew [.sl 0 1 (u8s bs)] (.v (.bool true)) [.bot] := by
  refine fn_ok (md := md8) (ms := [false]) k_laws_FnBookNew (by simp) ?_
  simp [c_laws_FnBookNew]
  refine fun hsz => ?_
  have hb : bs.length ≤ 2 ^ 60 := by omega
  refine call_onK (s_spec_DrawBookNew bs hb hB) [] (by simp) (by simp) (by simp) ?_
  rintro _ _ ⟨W, T, cs, ds, rfl, hcs, hds, rfl⟩
  have one := s_impl_BookNew W T cs ds (by omega) (by omega)
  have two := s_spec_BookNew W T cs ds (by omega) (by omega)
  cases hv : (regB W T cs && digsB cs ds) with
  | false =>
    have e : newB W T cs ds = bkO 0 0 [] [] [] [] := by simp [newB, hv]
    rw [e] at one two
    have same := s_laws_sameBook 0 0 [] [] [] [] 0 0 [] [] [] [] (by simp) (by simp) (by simp) (by simp) (by simp)
    rw [sameK_self] at same
    have fin := bn_false W T cs ds hcs hds hv
    simp [regA]
    refine call_on one ?_
    simp
    (repeat' first | omega | apply And.intro) <;>
    · refine call_on two ?_
      simp
      (repeat' first | omega | apply And.intro) <;>
      · refine call_on same ?_
        simp
        exact fin
  | true =>
    have e : newB W T cs ds = bkO W T cs ds (noneL cs) [] := by simp [newB, hv]
    rw [e] at one two
    simp only [Bool.and_eq_true] at hv
    have hnl : (noneL cs).length = cs.length := by simp [noneL]
    have same := s_laws_sameBook W T cs ds (noneL cs) [] W T cs ds (noneL cs) [] (by omega) (by omega) (by omega) (by simp) (by simp)
    rw [sameK_self] at same
    have fin := bn_true W T cs ds hcs hds hv.1 hv.2
    generalize noneL cs = ls at *
    simp [regA]
    refine call_on one ?_
    simp
    (repeat' first | omega | apply And.intro) <;>
    · refine call_on two ?_
      simp
      (repeat' first | omega | apply And.intro) <;>
      · refine call_on same ?_
        simp
        exact fin
end Go.Proofs.Dev

namespace Go.Proofs.Dev
set_option linter.unusedSimpArgs false

theorem doI_false {W T : Int} {cs : List Bool} {ds ls : List Int} {ps : List (List Int)} {k s w : Int} (h : (doI W T cs ds ls ps k s w).1 = false) : doI W T cs ds ls ps k s w = (false, ls, ps) := by
  unfold doI doRes at *
  split
  · rfl
  · rename_i hn
    rw [if_neg hn] at h
    split
    · rename_i hk
      rw [if_pos hk] at h
      cases hg : ps.getLast? with
      | none => rfl
      | some q => rw [hg] at h; cases h
    · rename_i hk
      rw [if_neg hk] at h
      split
      · rename_i hb; rw [if_pos hb] at h; cases h
      · rfl

theorem doI_true {W T : Int} {cs : List Bool} {ds ls : List Int} {ps : List (List Int)} {k s w : Int} (h : (doI W T cs ds ls ps k s w).1 = true) :
    (k = 4 ∧ ∃ q qs, ps = qs ++ [q] ∧ doI W T cs ds ls ps k s w = (true, q, qs)) ∨
    ((k = 0 ∨ k = 1 ∨ k = 2 ∨ k = 3) ∧ nextB W T cs ds ls k s w = true ∧ doI W T cs ds ls ps k s w = (true, nextL W T cs ds ls k s w, bkPast ls ps)) := by
  have hk5 := @needB_kind k s w
  unfold doI at *
  cases hn : needB (k, s, w) with
  | false => rw [hn] at h; simp [doRes] at h
  | true =>
  rw [hn] at h
  have hk5 := hk5 hn
  by_cases hk : k = 4
  · subst hk
    left
    refine ⟨rfl, ?_⟩
    rcases List.eq_nil_or_concat ps with rfl | ⟨qs, q, hq⟩
    · rw [doRes_none] at h; cases h
    · rw [List.concat_eq_append] at hq
      subst hq
      exact ⟨q, qs, rfl, by rw [doRes_back]⟩
  · right
    refine ⟨by omega, ?_⟩
    simp only [doRes, if_neg hk] at h ⊢
    simp only [Bool.true_eq_false, if_false] at h ⊢
    split at h
    · rename_i hb
      rw [if_pos hb]
      simp only [Bool.and_eq_true] at hb
      exact ⟨hb.1, rfl⟩
    · cases h

theorem next_ne {W T : Int} {cs : List Bool} {ds ls : List Int} {k s w : Int} (hf : fairB W T cs ds ls = true) (hb : nextB W T cs ds ls k s w = true) : nextL W T cs ds ls k s w ≠ ls := by
  obtain ⟨hr, hd, hy, ho⟩ := fair_parts hf
  obtain ⟨w1, w2, t1, t2, l1, _⟩ := regB_W hr
  have hl := lays_len hy
  unfold nextB at hb
  unfold nextL
  split at hb
  · rename_i h0
    rw [if_pos h0]
    have hf2 := hb
    simp only [freeB, decide_eq_true_eq] at hf2
    obtain ⟨f0, f1, f2, f3, f4, f5, f6⟩ := hf2
    obtain ⟨b1, b2, b3, b4, b5⟩ := step_back (T := T) w1 f0 (by omega) f2
    have := (lay_atI hr hy hb rfl).2.2 s f0
    rw [if_neg (fun e => b4 e.symm), if_pos rfl] at this
    intro e
    rw [layOneL, if_pos hb] at e
    rw [e] at this
    omega
  rename_i h0
  rw [if_neg h0]
  split at hb
  · rename_i h1
    rw [if_pos h1, if_pos hb]
    simp only [liftHas, decide_eq_true_eq] at hb
    have := (lift_atI hr hy hb.1 hb.2.1 hb.2.2 rfl).2.2 s hb.1
    rw [if_pos rfl] at this
    intro e
    rw [e] at this
    exact hb.2.2 this
  rename_i h1
  rw [if_neg h1]
  split at hb
  · rename_i h2
    rw [if_pos h2]
    have hb2 := hb
    simp only [flipB, Bool.and_eq_true, Bool.or_eq_true] at hb2
    obtain ⟨s0, s1⟩ := sw_at w1 hb2.1
    intro e
    unfold flipI at e
    rw [if_pos hb] at e
    by_cases hF : flatB W ls s = true
    · rw [if_pos hF] at e
      simp only [flatB, Bool.and_eq_true, decide_eq_true_eq] at hF
      have := ati_set4 (ls := ls) (p := 2) (q := 2) (r := 4) (s := 4) (k := swI W s) s0 w1 (by omega) s0
      rw [e, if_neg (by omega), if_neg (by omega), if_neg (by omega), if_pos rfl] at this
      omega
    · rw [if_neg hF] at e
      have hU := hb2.2.resolve_left hF
      simp only [upB, Bool.and_eq_true, decide_eq_true_eq] at hU
      have := ati_set4 (ls := ls) (p := 1) (q := 3) (r := 1) (s := 3) (k := swI W s) s0 w1 (by omega) s0
      rw [e, if_neg (by omega), if_neg (by omega), if_neg (by omega), if_pos rfl] at this
      omega
  rename_i h2
  rw [if_neg h2]
  split at hb
  · rename_i h3
    rw [if_pos h3]
    simpa using hb
  · cases hb

theorem bkPast_last (ls : List Int) (ps : List (List Int)) : ∃ qs, bkPast ls ps = qs ++ [ls] ∧ (ps.length < 20 → qs = ps) := by
  unfold bkPast
  have hd : ps.length + 1 - 20 ≤ ps.length := by omega
  rw [List.drop_append_of_le_length hd]
  refine ⟨_, rfl, fun h => ?_⟩
  rw [show ps.length + 1 - 20 = 0 by omega]; rfl

/-- After a deed another book is there; and taking back leads to what was laid. -/
theorem do_law {W T : Int} {cs : List Bool} {ds ls : List Int} {ps : List (List Int)} {k s w : Int} (hv : bookB W T cs ds ls ps = true) (h : (doI W T cs ds ls ps k s w).1 = true) :
    ∃ l2 p2, doI W T cs ds ls ps k s w = (true, l2, p2) ∧ bookB W T cs ds l2 p2 = true ∧ sameK W T cs ds l2 p2 W T cs ds ls ps = false ∧
      (k ≠ 4 → ∃ qs, doI W T cs ds l2 p2 4 0 0 = (true, ls, qs) ∧ (ps.length < 20 → qs = ps)) := by
  have hv2 := do_ok k s w hv
  obtain ⟨hf, h20, hpf⟩ := book_parts hv
  rcases doI_true h with ⟨rfl, q, qs, rfl, e⟩ | ⟨hk, hb, e⟩
  · rw [e] at hv2
    refine ⟨q, qs, e, hv2, ?_, fun h => absurd rfl h⟩
    have : qs ≠ qs ++ [q] := fun e => by have := congrArg List.length e; simp at this
    simp [sameK, this]
  · rw [e] at hv2
    refine ⟨_, _, e, hv2, ?_, fun _ => ?_⟩
    · have := next_ne hf hb
      simp [sameK, this]
    · obtain ⟨qs, e1, e2⟩ := bkPast_last ls ps
      rw [e1]
      exact ⟨qs, by unfold doI; rw [show needB (4, 0, 0) = true from rfl, doRes_back], e2⟩
end Go.Proofs.Dev

namespace Go.Proofs.Dev
set_option linter.unusedSimpArgs false
set_option maxRecDepth 100000

def drawBD (r : AV) (ups : List AV) : Prop := ∃ (W T : Int) (cs : List Bool) (ds ls : List Int) (ps : List (List Int)) (k s w : Int), cs.length ≤ 37 ∧ ds.length ≤ 38 ∧ ls.length ≤ 38 ∧ ps.length ≤ 21 ∧ (∀ x ∈ ps, x.length ≤ 37) ∧ s ≤ 200 ∧ r = .tup [bkO W T cs ds ls ps, deedV k s w] ∧ ups = [.bot]

theorem s_spec_DrawBookDo (bs : List Int) (hb : bs.length ≤ 2 ^ 60) (hB : Byt bs) : SoundSet Tryz.prog n_spec_DrawBookDo [.sl 0 1 (u8s bs)] drawBD := by
  refine fn_okS (md := md8) (ms := [false]) k_spec_DrawBookDo (by simp) ?_
  simp [c_spec_DrawBookDo]
  refine call_on (s_spec_l20Open bs hb) ?_
  simp
  refine call_onK (s_spec_l20Book (bs.take 2000) 0 12 (by simp; omega) (byt_take hB 2000) (by omega) (by omega) (by omega)) [2] (by simp) (by simp) (by simp) ?_
  rintro _ _ ⟨W, T, cs, ds, ls, ps, q, h1, h2, h3, h4, h5, hq, rfl, rfl⟩
  have t1 : (oss ps).take ps.length = oss ps := List.take_of_length_le (by simp [oss])
  have ded := s_spec_l20Deed (bs.take 2000) q W T cs ds ls ps (by simp; omega) (byt_take hB 2000) (by omega) (by omega) (by omega) (by omega)
  simp
  (repeat' first | omega | apply And.intro) <;>
  · refine call_onK ded [2] (by simp) (by simp) (by simp) ?_
    rintro _ _ ⟨k, s, w, q3, k0, k1, s0, s1, w0, w1, hq3, rfl, rfl⟩
    simp
    refine ⟨_, _, ⟨W, T, cs, ds, ls, ps, k, s, w, h1, h2, h3, h4, h5, s1, rfl, rfl⟩, ?_⟩
    simp [t1]

set_option maxHeartbeats 4000000 in
theorem l_FnBookDo (bs : List Int) (hB : Byt bs) : SoundAt Tryz.prog n_laws_FnBookDo [.sl 0 1 (u8s bs)] (.v (.bool true)) [.bot] := by
  refine fn_ok (md := md8) (ms := [false]) k_laws_FnBookDo (by simp) ?_
  simp [c_laws_FnBookDo]
  refine fun hsz => ?_
  have hb : bs.length ≤ 2 ^ 60 := by omega
  refine call_onK (s_spec_DrawBookDo bs hb hB) [] (by simp) (by simp) (by simp) ?_
  rintro _ _ ⟨W, T, cs, ds, ls, ps, k, s, w, h1, h2, h3, h4, h5, hs, rfl, rfl⟩
  have hp : ∀ p ∈ ps, p.length < 2 ^ 40 := fun p hp => by have := h5 p hp; omega
  have hp30 : ∀ p ∈ ps, p.length ≤ 2 ^ 30 := fun p hp => by have := h5 p hp; omega
  have one := s_impl_BookDoA W T cs ds ls ps k s w (by omega) (by omega) (by omega) (by omega) hp30 (by omega)
  have two := s_spec_BookDo W T cs ds ls ps k s w (by omega) (by omega) (by omega) (by omega) (fun p hp => by have := h5 p hp; omega)
  have va := s_impl_BookValid W T cs ds ls ps (by omega) (by omega) (by omega) (by omega) hp
  cases hv : bookB W T cs ds ls ps with
  | false =>
    rw [hv] at one two va
    simp only [Bool.false_eq_true, if_false, Bool.false_and] at one two
    have same := s_laws_sameBook 0 0 [] [] [] [] 0 0 [] [] [] [] (by simp) (by simp) (by simp) (by simp) (by simp)
    rw [sameK_self] at same
    have sm2 := s_laws_sameBook 0 0 [] [] [] [] W T cs ds ls ps (by simp) (by simp) (by simp) (by simp) (by simp)
    generalize sameK 0 0 [] [] [] [] W T cs ds ls ps = sb at *
    simp
    refine call_on one ?_
    simp
    refine call_on two ?_
    simp
    refine call_on same ?_
    simp
    refine call_on sm2 ?_
    cases sb with
    | true =>
      simp
      refine call_on s_laws_alive ?_
      simp
    | false =>
      simp
      refine call_on va ?_
      simp
      refine call_on s_laws_alive ?_
      simp
  | true =>
    rw [hv] at one two va
    simp only [if_true, Bool.true_and] at one two
    cases hd : (doI W T cs ds ls ps k s w).1 with
    | false =>
      have e := doI_false hd
      rw [e] at one two
      simp only at one two
      have same := s_laws_sameBook W T cs ds ls ps W T cs ds ls ps (by omega) (by omega) (by omega) (by omega) hp
      rw [sameK_self] at same
      simp
      refine call_on one ?_
      simp
      refine call_on two ?_
      simp
      refine call_on same ?_
      simp
      refine call_on same ?_
      simp
      refine call_on s_laws_alive ?_
      simp
    | true =>
      obtain ⟨l2, p2, e, hv2, hne, hbk⟩ := do_law hv hd
      rw [e] at one two
      simp only at one two
      obtain ⟨hf2, h202, hpf2⟩ := book_parts hv2
      have fl2 := fair_len hf2
      have hp2 : ∀ p ∈ p2, p.length < 2 ^ 40 := fun p hp => by have := fair_len (hpf2 p hp); omega
      have hp230 : ∀ p ∈ p2, p.length ≤ 2 ^ 30 := fun p hp => by have := fair_len (hpf2 p hp); omega
      have same := s_laws_sameBook W T cs ds l2 p2 W T cs ds l2 p2 (by omega) (by omega) (by omega) (by omega) hp2
      rw [sameK_self] at same
      have diff := s_laws_sameBook W T cs ds l2 p2 W T cs ds ls ps (by omega) (by omega) (by omega) (by omega) hp2
      rw [hne] at diff
      have va2 := s_impl_BookValid W T cs ds l2 p2 (by omega) (by omega) (by omega) (by omega) hp2
      rw [hv2] at va2
      have rg := s_laws_sameRegion W T cs W T cs (by omega)
      rw [sameR_self] at rg
      have di := s_laws_sameInts ds ds (by omega)
      have li := s_laws_sameInts ls ls (by omega)
      simp only [decide_true] at di li
      simp
      refine call_on one ?_
      simp
      refine call_on two ?_
      simp
      refine call_on same ?_
      by_cases hk4 : k = 4
      · subst hk4
        simp
        refine call_on va2 ?_
        simp
        refine call_on diff ?_
        simp
        refine call_on rg ?_
        simp
        refine call_on di ?_
        simp
      · obtain ⟨qs, eb, heq⟩ := hbk hk4
        have back := s_impl_BookDoA W T cs ds l2 p2 4 0 0 (by omega) (by omega) (by omega) (by omega) hp230 (by omega)
        rw [hv2, eb] at back
        simp only [if_true, Bool.true_and] at back
        simp [hk4]
        refine call_on back ?_
        simp
        refine call_on li ?_
        by_cases h20 : ps.length < 20
        · have hq := heq h20
          subst hq
          have sm3 := s_laws_sameBook W T cs ds ls qs W T cs ds ls qs (by omega) (by omega) (by omega) (by omega) hp
          rw [sameK_self] at sm3
          have h20' : (qs.length : Int) < 20 := by omega
          simp [h20, h20']
          refine call_on sm3 ?_
          simp
          refine call_on va2 ?_
          simp
          refine call_on diff ?_
          simp
          refine call_on rg ?_
          simp
          refine call_on di ?_
          simp
        · have h20' : ¬ (ps.length : Int) < 20 := by omega
          simp [h20, h20']
          refine call_on va2 ?_
          simp
          refine call_on diff ?_
          simp
          refine call_on rg ?_
          simp
          refine call_on di ?_
          simp
end Go.Proofs.Dev
