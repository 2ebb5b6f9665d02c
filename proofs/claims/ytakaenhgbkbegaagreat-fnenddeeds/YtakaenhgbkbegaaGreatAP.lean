/- Contracts of the functions of the program over slots and rows, each proved against the program itself; no condition beyond those that each theorem names. -/
import Derived.Test.YtakaenhgbkbegaaGreatAO
import Derived.Test.YtakaenhgbkbegaaGreatProg
import Derived.Test.YtakaenhgbkbegaaGreatAH

set_option linter.unusedSimpArgs false
set_option linter.unusedVariables false

namespace Go.Proofs.Dev

-- 2 parameters, results [.t 4], 25 slots, modes [false, false]
@[simp] abbrev n_spec_l2First : Nat := 157
def c_spec_l2First_L0 : ACode := .seq (.seq (.reg [.m 6 5, .m 7 1, .n 8 7, .o 9 (.bin .lss 0) [.t 6, .t 8]]) <| .cond (.t 9) ( .skip) ( .exit 0)) <|
 .seq (.block 1 ( .seq (.reg [.f 12 2 2, .l 13 12, .m 14 5, .o 15 (.iadr 1) [.t 13, .t 14], .l 16 15, .m 17 16, .mg 18 1 17 true, .mg 19 5 17 true,
 .g 20 (.iadr 1) [.t 18, .t 19] 17 true, .lg 21 20 17 true, .g 22 (.bin .eql 0) [.t 21, .k 0] 17 true, .o 23 .pick [.t 17, .t 22, .kb false]]) <|
 .cond (.t 23) ( .seq (.reg [.m 24 5, .m 4 24]) <| .ret) ( .skip))) <| .reg [.m 10 5, .o 11 (.bin .add 0) [.t 10, .k 1], .m 5 11]

def c_spec_l2First : ACode := .seq (.reg [.o 2 .box [.t 0], .o 4 .mv [.k 0]]) <| .seq (.seq (.reg [.o 5 .mv [.k 0]]) <| .block 0 ( .loop [(1, 1)] [1, 2,
 5] c_spec_l2First_L0)) <| .seq (.reg [.o 4 .mv [.k (-1)]]) <| .ret

theorem k_spec_l2First : cFn Tryz.prog n_spec_l2First 25 [.t 4] c_spec_l2First := ⟨Tryz.f157, _, Tryz.func157, rfl, by kernel_rfl, by kernel_rfl, by kernel_rfl, by kernel_rfl⟩

-- 2 parameters, results [.t 4], 39 slots, modes [false, false]
@[simp] abbrev n_spec_l2All : Nat := 199
def c_spec_l2All_L0 : ACode := .seq (.seq (.reg [.m 20 7, .o 21 (.bin .leq 0) [.t 20, .k 2]]) <| .cond (.t 21) ( .skip) ( .exit 0)) <|
 .seq (.block 1 ( .seq (.reg [.la 25 3 2, .m 26 1, .m 27 6, .m 28 7, .o 29 (.call 81 []) [.t 25, .t 26, .t 27, .t 28], .m 24 29, .e 30 0 24, .e 31 1 24, .m 8 30,
 .m 9 31]) <| .seq (.reg [.m 32 9]) <| .cond (.t 32) ( .reg [.m 33 5, .la 34 3 2, .m 35 8, .o 36 (.call 199 []) [.t 34, .t 35], .o 37 (.app 1 24 false) [.t 33,
 .t 36], .m 5 37]) ( .skip))) <| .reg [.m 22 7, .o 23 (.bin .add 0) [.t 22, .k 1], .m 7 23]

def c_spec_l2All : ACode := .seq (.reg [.o 2 .box [.t 0], .o 4 .mv [.c (.os 1 [])]]) <| .seq (.reg [.o 10 (.bsl 1) [], .m 5 10]) <| .seq (.reg [.la 11 3 2,
 .m 12 1, .o 13 (.call 157 []) [.t 11, .t 12], .m 6 13]) <| .seq (.seq (.reg [.m 14 6, .o 15 (.bin .lss 0) [.t 14, .k 0]]) <|
 .cond (.t 15) ( .seq (.reg [.m 16 5, .m 17 1, .o 18 (.bsl 1) [.t 17], .o 19 (.app 1 24 false) [.t 16, .t 18], .m 4 19]) <| .ret) ( .skip)) <|
 .seq (.seq (.reg [.o 7 .mv [.k 1]]) <| .block 0 ( .loop [(1, 1), (5, 1)] [1, 2, 5, 6, 7] c_spec_l2All_L0)) <| .seq (.reg [.m 38 5, .m 4 38]) <| .ret

theorem k_spec_l2All : cFn Tryz.prog n_spec_l2All 39 [.t 4] c_spec_l2All := ⟨Tryz.f199, _, Tryz.func199, rfl, by kernel_rfl, by kernel_rfl, by kernel_rfl, by kernel_rfl⟩

-- 1 parameters, results [.t 2], 11 slots, modes [false]
@[simp] abbrev n_spec_TilingsAll : Nat := 178

abbrev c_spec_TilingsAll_p0 : Plan := .al (.o 10 (.call 199 []) [.t 7, .t 9]) ( .take (.m 2 10) <| .done)
def c_spec_TilingsAll : ACode := .seq (.reg [.o 1 .box [.t 0], .o 2 .mv [.c (.os 1 [])]]) <| .seq (.seq (.reg [.la 3 3 1, .o 4 (.call 61 []) [.t 3],
 .o 5 (.un .not) [.t 4]]) <| .cond (.t 5) ( .seq (.reg [.o 6 (.bsl 1) [], .m 2 6]) <| .ret) ( .skip)) <|
 .seq (.draw ( .alt (.la 7 3 1) ( .al (.la 8 3 1) ( .al (.o 9 (.call 60 []) [.t 8]) c_spec_TilingsAll_p0)) <|
 .al (.la 8 3 1) ( .alt (.la 7 3 1) ( .al (.o 9 (.call 60 []) [.t 8]) c_spec_TilingsAll_p0) <|
 .al (.o 9 (.call 60 []) [.t 8]) ( .al (.la 7 3 1) c_spec_TilingsAll_p0)))) <| .ret

theorem k_spec_TilingsAll : cFn Tryz.prog n_spec_TilingsAll 11 [.t 2] c_spec_TilingsAll := ⟨Tryz.f178, _, Tryz.func178, rfl, by kernel_rfl, by kernel_rfl, by kernel_rfl, by kernel_rfl⟩

-- 2 parameters, results [.t 4], 37 slots, modes [false, false]
@[simp] abbrev n_spec_SolutionsAll : Nat := 154
def c_spec_SolutionsAll_L0 : ACode := .seq (.seq (.reg [.m 11 7, .m 12 6, .n 13 12, .o 14 (.bin .lss 0) [.t 11, .t 13], .m 15 14,
 .g 16 (.load true 3) [.t 2] 15 true, .mg 17 1 15 true, .g 18 (.call 15 []) [.t 16, .t 17] 15 true, .o 19 .pick [.t 15, .t 18, .kb false]]) <|
 .cond (.t 19) ( .skip) ( .exit 0)) <| .seq (.block 1 ( .seq (.draw ( .take (.m 23 1) <| .take (.m 24 6) <| .take (.m 25 7) <| .take (.o 26 (.iadr 1) [.t 24,
 .t 25]) <| .alt (.la 22 3 2) ( .al (.l 27 26) ( .al (.o 28 (.call 99 []) [.t 22, .t 23, .t 27]) ( .done))) <|
 .al (.l 27 26) ( .al (.la 22 3 2) ( .al (.o 28 (.call 99 []) [.t 22, .t 23, .t 27]) ( .done))))) <| .cond (.t 28) ( .reg [.m 29 5, .m 30 6, .m 31 7,
 .o 32 (.iadr 1) [.t 30, .t 31], .l 33 32, .o 34 (.bsl 1) [.t 33], .o 35 (.app 1 24 false) [.t 29, .t 34], .m 5 35]) ( .skip))) <| .reg [.m 20 7,
 .o 21 (.bin .add 0) [.t 20, .k 1], .m 7 21]

def c_spec_SolutionsAll : ACode := .seq (.reg [.o 2 .box [.t 0], .o 4 .mv [.c (.os 1 [])]]) <| .seq (.reg [.o 8 (.bsl 1) [], .m 5 8]) <| .seq (.reg [.la 9 3 2,
 .o 10 (.call 178 []) [.t 9], .m 6 10]) <| .seq (.seq (.reg [.o 7 .mv [.k 0]]) <| .block 0 ( .loop [(1, 1), (5, 1), (6, 1)] [1, 2, 5, 6,
 7] c_spec_SolutionsAll_L0)) <| .seq (.reg [.m 36 5, .m 4 36]) <| .ret

theorem k_spec_SolutionsAll : cFn Tryz.prog n_spec_SolutionsAll 37 [.t 4] c_spec_SolutionsAll := ⟨Tryz.f154, _, Tryz.func154, rfl, by kernel_rfl, by kernel_rfl, by kernel_rfl, by kernel_rfl⟩

-- 1 parameters, results [.t 2], 11 slots, modes [false]
@[simp] abbrev n_spec_LaidBare : Nat := 60

def c_spec_LaidBare : ACode := .seq (.reg [.o 1 .box [.t 0], .o 2 .mv [.c (.os 1 [])]]) <| .seq (.seq (.reg [.la 3 3 1, .o 4 (.call 61 []) [.t 3],
 .o 5 (.un .not) [.t 4]]) <| .cond (.t 5) ( .seq (.reg [.o 6 (.bsl 1) [], .m 2 6]) <| .ret) ( .skip)) <| .seq (.reg [.f 7 2 1, .l 8 7, .n 9 8,
 .o 10 (.mksl 1 8 (.v (.int .i64 (0)))) [.t 9, .t 9], .m 2 10]) <| .ret

theorem k_spec_LaidBare : cFn Tryz.prog n_spec_LaidBare 11 [.t 2] c_spec_LaidBare := ⟨Tryz.f60, _, Tryz.func60, rfl, by kernel_rfl, by kernel_rfl, by kernel_rfl, by kernel_rfl⟩

end Go.Proofs.Dev

namespace Go.Proofs.Dev
set_option linter.unusedSimpArgs false
set_option maxRecDepth 100000

/-- Who takes ownership: 139 of its second argument. -/
@[simp] def md1 (f : Nat) : List Bool := if f = 199 then [false, true] else md0 f

def bareB (cs : List Bool) (ls : List Int) (k : Nat) : Bool := atb cs k && decide (ati ls k = 0)
def bareI (cs : List Bool) (ls : List Int) : Int := firstI (bareB cs ls) ls.length
/-- All tilings that have the dominoes of a list. -/
def allT (W T : Int) (cs : List Bool) : Nat → List Int → List (List Int)
  | 0, ls => [ls]
  | n + 1, ls => if bareI cs ls < 0 then [ls] else
      (if freeB W T cs ls (bareI cs ls) 1 then allT W T cs n (layI W T ls (bareI cs ls) 1) else []) ++
      (if freeB W T cs ls (bareI cs ls) 2 then allT W T cs n (layI W T ls (bareI cs ls) 2) else [])

theorem allT_length (W T : Int) (cs : List Bool) : ∀ (n : Nat) (ls : List Int), (allT W T cs n ls).length ≤ 2 ^ n
  | 0, ls => by simp [allT]
  | n + 1, ls => by
    have h1 := allT_length W T cs n (layI W T ls (bareI cs ls) 1)
    have h2 := allT_length W T cs n (layI W T ls (bareI cs ls) 2)
    have h3 : 0 < 2 ^ n := Nat.pow_pos (by omega)
    rw [allT]
    split
    · simp only [List.length_singleton]; omega
    · rw [List.length_append]
      have e1 : (if freeB W T cs ls (bareI cs ls) 1 then allT W T cs n (layI W T ls (bareI cs ls) 1) else []).length ≤ 2 ^ n := by
        split
        · exact h1
        · simp
      have e2 : (if freeB W T cs ls (bareI cs ls) 2 then allT W T cs n (layI W T ls (bareI cs ls) 2) else []).length ≤ 2 ^ n := by
        split
        · exact h2
        · simp
      omega

theorem bare_cases (cs : List Bool) (ls : List Int) : bareI cs ls = -1 ∨ ∃ k : Nat, k < ls.length ∧ bareI cs ls = k ∧ atb cs k = true ∧ ati ls k = 0 := by
  rcases firstI_cases (bareB cs ls) ls.length with h | ⟨k, hk, hp, he⟩
  · left; exact h
  · right
    simp only [bareB, Bool.and_eq_true, decide_eq_true_eq] at hp
    exact ⟨k, hk, he, hp.1, hp.2⟩

theorem lay_zeros {W T : Int} {ls : List Int} {k : Nat} {way : Int} (hk : k < ls.length) (hz : ati ls k = 0) (h1 : 1 ≤ way) (h4 : way ≤ 4) : zeros (layI W T ls k way) < zeros ls := by
  have hb : backI way ≠ 0 := by
    have := (backI_back h1 h4).2
    omega
  refine Nat.lt_of_le_of_lt (zeros_set_le hb) ?_
  exact zeros_set_lt (by simpa using hk) (by simpa using hz) (by omega)

theorem s_spec_l2First (W T : Int) (cs : List Bool) (ls : List Int) (hl : ls.length = cs.length) (hb : cs.length < 2 ^ 40) :
    SoundAt Tryz.prog n_spec_l2First [.agg [.v (.int .i64 W), .v (.int .i64 T), .sl 1 1 (bools cs)], .sl 1 1 (ints ls)] (.v (.int .i64 (bareI cs ls))) [.bot, .bot] := by
  refine fn_ok (md := md0) (ms := [false, false]) k_spec_l2First (by simp) ?_
  simp [c_spec_l2First]
  refine loop_by (fun m E H => ∃ i : Nat, m = ls.length - i ∧ i ≤ ls.length ∧ (∀ j : Nat, j < i → bareB cs ls j = false) ∧ H = [some (.box [.v (.int .i64 W), .v (.int .i64 T), .sl 1 1 (bools cs)])] ∧
    E = [(1, .sl 1 1 (ints ls)), (2, .lp 0 0 0 0), (5, .v (.int .i64 i))]) ls.length ⟨0, by simp⟩ ?_
  rintro J hJ m E H ⟨i, rfl, hi, ha, rfl, rfl⟩
  by_cases h : i < ls.length
  case neg =>
    have : i = ls.length := by omega
    subst this
    have e : bareI cs ls = -1 := firstI_none ha
    simp [c_spec_l2First_L0, e]
  have next : bareB cs ls i = false → again J (ls.length - i) [(1, .sl 1 1 (ints ls)), (2, .lp 0 0 0 0), (5, .v (.int .i64 (i + 1)))]
      [some (.box [.v (.int .i64 W), .v (.int .i64 T), .sl 1 1 (bools cs)])] := by
    intro hx
    refine ⟨_, by omega, hJ _ _ _ ⟨i + 1, rfl, h, ?_, rfl, rfl⟩⟩
    intro j hj
    rcases Nat.lt_or_ge j i with h1 | h1
    · exact ha j h1
    · have : j = i := by omega
      subst this; exact hx
  have h2 : i < cs.length := by omega
  cases hc : atb cs i with
  | false =>
    simp [c_spec_l2First_L0, h, h2, hc]
    exact ⟨by omega, next (by simp [bareB, hc])⟩
  | true =>
  by_cases z : ati ls i = 0
  · have e : bareI cs ls = i := firstI_hit h (by simp [bareB, hc, z]) ha
    simp [c_spec_l2First_L0, h, h2, hc, z, e]
  · simp [c_spec_l2First_L0, h, h2, hc, z]
    exact ⟨by omega, next (by simp [bareB, z])⟩

theorem allT_leaf {W T : Int} {cs : List Bool} {ls : List Int} (n : Nat) (h : bareI cs ls < 0) : allT W T cs n ls = [ls] := by
  cases n with
  | zero => rfl
  | succ n => simp [allT, h]

def partT (W T : Int) (cs : List Bool) (n : Nat) (ls : List Int) (cell way : Int) : List (List Int) := if freeB W T cs ls cell way then allT W T cs n (layI W T ls cell way) else []
def accT (W T : Int) (cs : List Bool) (n : Nat) (ls : List Int) (cell : Int) (i : Nat) : List (List Int) := (List.range i).flatMap fun j : Nat => partT W T cs n ls cell (j + 1)
theorem accT_succ (W T : Int) (cs : List Bool) (n : Nat) (ls : List Int) (cell : Int) (i : Nat) : accT W T cs n ls cell (i + 1) = accT W T cs n ls cell i ++ partT W T cs n ls cell (i + 1) := by
  simp [accT, List.range_succ]
theorem partT_length (W T : Int) (cs : List Bool) (n : Nat) (ls : List Int) (cell way : Int) : (partT W T cs n ls cell way).length ≤ 2 ^ n := by
  unfold partT; split
  · exact allT_length ..
  · simp
theorem accT_length (W T : Int) (cs : List Bool) (n : Nat) (ls : List Int) (cell : Int) : ∀ i, (accT W T cs n ls cell i).length ≤ i * 2 ^ n
  | 0 => by simp [accT]
  | i + 1 => by
    have h1 := accT_length W T cs n ls cell i
    have h2 := partT_length W T cs n ls cell (i + 1)
    rw [accT_succ, List.length_append, Nat.succ_mul]
    omega

theorem zeros_pos {ls : List Int} {k : Nat} (h : k < ls.length) (hz : ati ls k = 0) : 0 < zeros ls := by
  have := zeros_set_lt (v := 1) h hz (by omega)
  omega

theorem s_spec_l2All (W T : Int) (cs : List Bool) (hr : regB W T cs = true) : ∀ (n : Nat) (ls : List Int), n ≤ 36 → zeros ls ≤ n → laysB W T cs ls = true →
    SoundAt Tryz.prog n_spec_l2All [.agg [.v (.int .i64 W), .v (.int .i64 T), .sl 1 1 (bools cs)], .os 1 (ints ls)] (.os 1 (oss (allT W T cs n ls))) [.bot, .bot] := by
  intro n
  have h36 := regB_len hr
  induction n with
  | zero =>
    intro ls hn hz hy
    have hl : ls.length = cs.length := by simp only [laysB, Bool.and_eq_true, decide_eq_true_eq] at hy; exact hy.1
    refine fn_ok (md := md1) (ms := [false, false]) k_spec_l2All (by simp) ?_
    simp [c_spec_l2All]
    refine call_on (s_spec_l2First W T cs ls hl (by omega)) ?_
    rcases bare_cases cs ls with h | ⟨k, hk, he, hc, hzk⟩
    · simp [h, allT_leaf, oss_one]
    · have := zeros_pos hk hzk
      omega
  | succ n ih =>
    intro ls hn hz hy
    have hl : ls.length = cs.length := by simp only [laysB, Bool.and_eq_true, decide_eq_true_eq] at hy; exact hy.1
    refine fn_ok (md := md1) (ms := [false, false]) k_spec_l2All (by simp) ?_
    simp [c_spec_l2All]
    refine call_on (s_spec_l2First W T cs ls hl (by omega)) ?_
    rcases bare_cases cs ls with h | ⟨k, hk, he, hc, hzk⟩
    · simp [h, allT_leaf, oss_one]
    have hk0 : ¬ (k : Int) < 0 := by omega
    have hall : allT W T cs (n + 1) ls = accT W T cs n ls k 2 := by
      rw [allT, he, if_neg hk0]
      simp [accT, partT, List.range_succ]
    rw [hall]
    simp [he, hk0]
    refine loop_by (fun m E H => ∃ i : Nat, m = 2 - i ∧ i ≤ 2 ∧ H = [some (.arr 1 (ints ls)), some (.box [.v (.int .i64 W), .v (.int .i64 T), .sl 1 1 (bools cs)]), some (.arr 1 (oss (accT W T cs n ls k i)))] ∧
      E = [(1, .ls 1 0 0 ls.length), (2, .lp 0 1 0 0), (5, .ls 1 2 0 (accT W T cs n ls k i).length), (6, .v (.int .i64 k)), (7, .v (.int .i64 (i + 1)))]) 2 ⟨0, by simp [accT]⟩ ?_
    rintro J hJ m E H ⟨i, rfl, hi, rfl, rfl⟩
    by_cases h : i < 2
    case neg =>
      have : i = 2 := by omega
      subst this
      simp [c_spec_l2All_L0]
    have h' : (i : Int) + 1 ≤ 2 := by omega
    have hsuc := accT_succ W T cs n ls k i
    have next : ∀ (x : List (List Int)), partT W T cs n ls k (i + 1) = x → again J (2 - i) [(1, .ls 1 0 0 ls.length), (2, .lp 0 1 0 0), (5, .ls 1 2 0 ((accT W T cs n ls k i).length + x.length)), (6, .v (.int .i64 k)), (7, .v (.int .i64 (i + 1 + 1)))]
        [some (.arr 1 (ints ls)), some (.box [.v (.int .i64 W), .v (.int .i64 T), .sl 1 1 (bools cs)]), some (.arr 1 (oss (accT W T cs n ls k i) ++ oss x))] := by
      intro x hx
      refine ⟨_, by omega, hJ _ _ _ ⟨i + 1, rfl, h, ?_, ?_⟩⟩
      · rw [hsuc, hx, oss_append]
      · rw [hsuc, hx, List.length_append]; rfl
    have one := s_spec_LayOne W T cs ls k (i + 1) hr hy
    simp [c_spec_l2All_L0, h']
    refine call_on one ?_
    cases hf : freeB W T cs ls k (i + 1) with
    | false =>
      have nx := next [] (by simp [partT, hf])
      simp at nx
      simp
      exact ⟨by omega, nx⟩
    | true =>
      have el : layOneL W T cs ls k (i + 1) = layI W T ls k (i + 1) := by simp [layOneL, hf]
      rw [el]
      have hy2 := lay_ok hr hy hf
      have hz2 : zeros (layI W T ls k (i + 1)) < zeros ls := lay_zeros hk hzk (by omega) (by omega)
      have two := ih (layI W T ls k (i + 1)) (by omega) (by omega) hy2
      have nx := next (allT W T cs n (layI W T ls k (i + 1))) (by simp [partT, hf])
      have hll := layI_length W T ls k (i + 1)
      have htk : (ints (layI W T ls k (i + 1))).take ls.length = ints (layI W T ls k (i + 1)) := List.take_of_length_le (by simp [hll])
      have b1 := allT_length W T cs n (layI W T ls k (i + 1))
      have b0 : 2 ^ n ≤ 2 ^ 36 := Nat.pow_le_pow_right (by omega) (by omega)
      have b2 := accT_length W T cs n ls k i
      have b3 : i * 2 ^ n ≤ 2 * 2 ^ n := Nat.mul_le_mul_right _ (by omega)
      have b4 : (accT W T cs n ls k i).length + (allT W T cs n (layI W T ls k (i + 1))).length ≤ 206158430208 := by omega
      simp [hll, htk]
      refine call_on two ?_
      simp [hll, htk]
      exact ⟨by omega, by omega, nx⟩

end Go.Proofs.Dev

namespace Go.Proofs.Dev
set_option linter.unusedSimpArgs false
set_option maxRecDepth 100000

def noneL (cs : List Bool) : List Int := List.replicate cs.length 0
theorem ati_none (cs : List Bool) (k : Int) : ati (noneL cs) k = 0 := by
  unfold ati noneL
  rw [List.getD_eq_getElem?_getD, List.getElem?_replicate]
  split <;> rfl
theorem lays_none (W T : Int) (cs : List Bool) : laysB W T cs (noneL cs) = true := by
  simp only [laysB, Bool.and_eq_true, decide_eq_true_eq, allB_iff]
  refine ⟨by simp [noneL], fun k _ => ?_⟩
  simp only [layAt, decide_eq_true_eq]
  exact .inl (ati_none cs k)

theorem allT_mem (W T : Int) (cs : List Bool) : ∀ (n : Nat) (ls p : List Int), p ∈ allT W T cs n ls → p.length = ls.length
  | 0, ls, p, h => by simp [allT] at h; rw [h]
  | n + 1, ls, p, h => by
    rw [allT] at h
    split at h
    · simp at h; rw [h]
    · rw [List.mem_append] at h
      rcases h with h | h <;> split at h
      · rw [allT_mem W T cs n _ p h, layI_length]
      · cases h
      · rw [allT_mem W T cs n _ p h, layI_length]
      · cases h

def tilesI (W T : Int) (cs : List Bool) : List (List Int) := if regB W T cs then allT W T cs cs.length (noneL cs) else []
theorem tiles_mem {W T : Int} {cs : List Bool} {p : List Int} (h : p ∈ tilesI W T cs) : p.length = cs.length := by
  unfold tilesI at h
  split at h
  · rw [allT_mem W T cs _ _ p h]; simp [noneL]
  · cases h
theorem tiles_length {W T : Int} {cs : List Bool} : (tilesI W T cs).length ≤ 68719476736 := by
  unfold tilesI
  split
  · rename_i hr
    have h1 := allT_length W T cs cs.length (noneL cs)
    have h2 : 2 ^ cs.length ≤ 2 ^ 36 := Nat.pow_le_pow_right (by omega) (regB_len hr)
    omega
  · simp

theorem s_spec_LaidBare (W T : Int) (cs : List Bool) (hb : cs.length < 2 ^ 40) :
    SoundAt Tryz.prog n_spec_LaidBare [.agg [.v (.int .i64 W), .v (.int .i64 T), .sl 1 1 (bools cs)]] (.os 1 (ints (if regB W T cs then noneL cs else []))) [.bot] := by
  refine fn_ok (md := md0) (ms := [false]) k_spec_LaidBare (by simp) ?_
  simp [c_spec_LaidBare]
  refine call_on (s_spec_RegionValid W T cs hb) ?_
  cases hr : regB W T cs with
  | false => simp
  | true =>
  simp [noneL, ints_rep]
  exact ⟨by omega, List.take_of_length_le (by simp)⟩

theorem s_spec_TilingsAll (W T : Int) (cs : List Bool) (hb : cs.length < 2 ^ 40) :
    SoundAt Tryz.prog n_spec_TilingsAll [.agg [.v (.int .i64 W), .v (.int .i64 T), .sl 1 1 (bools cs)]] (.os 1 (oss (tilesI W T cs))) [.bot] := by
  refine fn_ok (md := md1) (ms := [false]) k_spec_TilingsAll (by simp) ?_
  simp [c_spec_TilingsAll]
  refine call_on (s_spec_RegionValid W T cs hb) ?_
  cases hr : regB W T cs with
  | false => simp [tilesI, hr]
  | true =>
  have one := s_spec_LaidBare W T cs hb
  rw [if_pos hr] at one
  have hn : (noneL cs).length = cs.length := by simp [noneL]
  have hz : zeros (noneL cs) ≤ cs.length := by have := zeros_le (noneL cs); omega
  have two := s_spec_l2All W T cs hr cs.length (noneL cs) (regB_len hr) hz (lays_none W T cs)
  have et : tilesI W T cs = allT W T cs cs.length (noneL cs) := by simp [tilesI, hr]
  have htk : (ints (noneL cs)).take cs.length = ints (noneL cs) := List.take_of_length_le (by simp [hn])
  rw [et]
  simp
  (repeat' first | assumption | omega | apply And.intro) <;>
  · refine call_on one ?_
    simp [hn, htk]
    (repeat' first | assumption | omega | apply And.intro) <;>
    · refine call_on two ?_
      simp [hn, htk]

def solsI (W T : Int) (cs : List Bool) (ds : List Int) : List (List Int) := if (regB W T cs && digsB cs ds) = true then (tilesI W T cs).filter (solvedB W T cs ds) else []

theorem filter_succ {ps : List (List Int)} {i : Nat} (f : List Int → Bool) (h : i < ps.length) : (ps.take (i + 1)).filter f = (ps.take i).filter f ++ if f (pti ps i) then [pti ps i] else [] := by
  rw [List.take_succ_eq_append_getElem h, List.filter_append, pti_get h]
  congr 1
  cases hf : f ps[i] <;> simp [hf]

theorem RL_reg {W T : Int} {cs : List Bool} : ∀ (C : Ctx) (S : List Nat) (us : List Value), RL C [.agg [.v (.int .i64 W), .v (.int .i64 T), .sl 1 1 (bools cs)]] S us → S = [] := by
  intro C S us h
  rw [RL] at h
  obtain ⟨S1, S2, u, us', rfl, rfl, h1, h2⟩ := h
  rw [RL] at h2
  rw [R] at h1
  obtain ⟨vs, _, h1⟩ := h1
  rw [RL] at h1
  obtain ⟨A1, A2, _, _, rfl, _, a1, h1⟩ := h1
  rw [RL] at h1
  obtain ⟨A3, A4, _, _, rfl, _, a3, h1⟩ := h1
  rw [RL] at h1
  obtain ⟨A5, A6, _, _, rfl, _, a5, h1⟩ := h1
  rw [RL] at h1
  rw [R] at a1
  rw [R] at a3
  rw [R] at a5
  rw [a1.1, a3.1, a5.1, h1.1, h2.1]
  rfl

theorem s_spec_TilingsAllF (W T : Int) (cs : List Bool) (hb : cs.length < 2 ^ 40) :
    SoundAt Tryz.prog n_spec_TilingsAll [.agg [.v (.int .i64 W), .v (.int .i64 T), .sl 1 1 (bools cs)]] (.sl 0 1 (sls 0 (tilesI W T cs))) [.bot] := by
  have h := SoundAt.frozen (n := 1) RL_reg (s_spec_TilingsAll W T cs hb)
  simpa [vw] using h

theorem s_spec_SolutionsAll (W T : Int) (cs : List Bool) (ds : List Int) (hb : cs.length < 2 ^ 40) (hd : ds.length < 2 ^ 40) :
    SoundAt Tryz.prog n_spec_SolutionsAll [.agg [.v (.int .i64 W), .v (.int .i64 T), .sl 1 1 (bools cs)], .sl 1 1 (ints ds)] (.os 1 (sls 0 (solsI W T cs ds))) [.bot, .bot] := by
  refine fn_ok (md := md1) (ms := [false, false]) k_spec_SolutionsAll (by simp) ?_
  simp [c_spec_SolutionsAll]
  refine call_on (s_spec_TilingsAllF W T cs hb) ?_
  simp
  have hpv := s_spec_PuzzleValid W T cs ds hb hd
  have hmem : ∀ p ∈ tilesI W T cs, p.length = cs.length := fun p hp => tiles_mem hp
  have htl := tiles_length (W := W) (T := T) (cs := cs)
  have esol : solsI W T cs ds = if (regB W T cs && digsB cs ds) = true then (tilesI W T cs).filter (solvedB W T cs ds) else [] := rfl
  generalize tilesI W T cs = ts at *
  refine loop_by (fun m E H => ∃ i : Nat, m = ts.length - i ∧ i ≤ ts.length ∧ (i = 0 ∨ (regB W T cs && digsB cs ds) = true) ∧ H = [some (.box [.v (.int .i64 W), .v (.int .i64 T), .sl 1 1 (bools cs)]), some (.arr 1 (sls 0 ((ts.take i).filter (solvedB W T cs ds))))] ∧
    E = [(1, .sl 1 1 (ints ds)), (2, .lp 0 0 0 0), (5, .ls 1 1 0 ((ts.take i).filter (solvedB W T cs ds)).length), (6, .sl 0 1 (sls 0 ts)), (7, .v (.int .i64 i))]) ts.length ⟨0, by simp⟩ ?_
  rintro J hJ m E H ⟨i, rfl, hi, hp0, rfl, rfl⟩
  by_cases h : i < ts.length
  case neg =>
    have : i = ts.length := by omega
    subst this
    have e2 : (ts.take ts.length).filter (solvedB W T cs ds) = solsI W T cs ds := by
      rw [List.take_length, esol]
      rcases hp0 with h0 | h0
      · have : ts = [] := List.eq_nil_of_length_eq_zero h0
        subst this
        simp
      · rw [if_pos h0]
    rw [e2]
    simp [c_spec_SolutionsAll_L0]
    exact List.take_of_length_le (by simp)
  simp [c_spec_SolutionsAll_L0, h]
  refine call_on hpv ?_
  cases hp : (regB W T cs && digsB cs ds) with
  | false =>
    have : i = 0 := by rcases hp0 with h0 | h0; exact h0; rw [hp] at h0; cases h0
    subst this
    have e2 : solsI W T cs ds = [] := by rw [esol, if_neg (by simp [hp])]
    simp [e2]
  | true =>
  have hr : regB W T cs = true := by simp only [Bool.and_eq_true] at hp; exact hp.1
  have h36 := regB_len hr
  have hpl := hmem _ (pti_mem h)
  have one := s_spec_SolvedOk W T cs ds (pti ts i) hb hd (by omega)
  have hsuc := filter_succ (solvedB W T cs ds) h
  have hlen : ((ts.take i).filter (solvedB W T cs ds)).length ≤ i := by
    refine Nat.le_trans (List.length_filter_le _ _) ?_
    rw [List.length_take]; omega
  simp [h]
  (repeat' first | assumption | omega | apply And.intro) <;>
  · refine call_on one ?_
    cases hs : solvedB W T cs ds (pti ts i) with
    | false =>
      rw [if_neg (by simp [hs]), List.append_nil] at hsuc
      simp [h]
      exact ⟨by omega, _, by omega, hJ _ _ _ ⟨i + 1, rfl, h, .inr hp, by rw [hsuc], by rw [hsuc]; rfl⟩⟩
    | true =>
      rw [if_pos hs] at hsuc
      simp [h]
      exact ⟨by omega, by omega, _, by omega, hJ _ _ _ ⟨i + 1, rfl, h, .inr hp, by rw [hsuc]; simp [sls], by rw [hsuc]; simp⟩⟩

end Go.Proofs.Dev

namespace Go.Proofs.Dev
set_option linter.unusedSimpArgs false

theorem firstI_neg {p : Nat → Bool} {n : Nat} (h : firstI p n < 0) : ∀ j, j < n → p j = false := by
  intro j hj
  cases hx : p j with
  | false => rfl
  | true =>
    exfalso
    have hm : ∃ x ∈ List.range n, p x = true := ⟨j, by simpa using hj, hx⟩
    have hs := List.find?_isSome.2 hm
    unfold firstI at h
    split at h
    · omega
    · rename_i h9; rw [h9] at hs; cases hs

theorem full_of_bare {cs : List Bool} {ls : List Int} (hl : ls.length = cs.length) (h : bareI cs ls < 0) : fullB cs ls = true := by
  rw [fullB, allB_iff]
  intro k hk
  have h1 := firstI_neg h k (by omega)
  simp only [bareB] at h1
  simp only [fullAt, h1]
  rfl

theorem allT_full {W T : Int} {cs : List Bool} (hr : regB W T cs = true) : ∀ (n : Nat) (ls : List Int), zeros ls ≤ n → laysB W T cs ls = true → ∀ p ∈ allT W T cs n ls, laysB W T cs p = true ∧ fullB cs p = true := by
  intro n
  induction n with
  | zero =>
    intro ls hz hy p hp
    have hl : ls.length = cs.length := by simp only [laysB, Bool.and_eq_true, decide_eq_true_eq] at hy; exact hy.1
    simp only [allT, List.mem_singleton] at hp
    subst hp
    refine ⟨hy, full_of_bare hl ?_⟩
    rcases bare_cases cs p with h | ⟨k, hk, he, hc, hzk⟩
    · omega
    · have := zeros_pos hk hzk
      omega
  | succ n ih =>
    intro ls hz hy p hp
    have hl : ls.length = cs.length := by simp only [laysB, Bool.and_eq_true, decide_eq_true_eq] at hy; exact hy.1
    rw [allT] at hp
    split at hp
    · rename_i hb
      simp only [List.mem_singleton] at hp
      subst hp
      exact ⟨hy, full_of_bare hl hb⟩
    · rename_i hb
      rcases bare_cases cs ls with h | ⟨k, hk, he, hc, hzk⟩
      · omega
      rw [he] at hp
      have step : ∀ way : Int, 1 ≤ way → way ≤ 4 → freeB W T cs ls k way = true → p ∈ allT W T cs n (layI W T ls k way) → laysB W T cs p = true ∧ fullB cs p = true := by
        intro way w1 w4 hf hm
        have hz2 : zeros (layI W T ls k way) < zeros ls := lay_zeros hk hzk w1 w4
        exact ih (layI W T ls k way) (by omega) (lay_ok hr hy hf) p hm
      rw [List.mem_append] at hp
      rcases hp with hp | hp
      · split at hp
        · rename_i hf; exact step 1 (by omega) (by omega) hf hp
        · cases hp
      · split at hp
        · rename_i hf; exact step 2 (by omega) (by omega) hf hp
        · cases hp

/-- For a valid puzzle: of the tilings those solve it whose pairs are fair. -/
theorem sols_fair {W T : Int} {cs : List Bool} {ds : List Int} (h : (regB W T cs && digsB cs ds) = true) : solsI W T cs ds = (tilesI W T cs).filter (fun t => onceB (pairsI W T ds t)) := by
  have hr : regB W T cs = true := by simp only [Bool.and_eq_true] at h; exact h.1
  have hd : digsB cs ds = true := by simp only [Bool.and_eq_true] at h; exact h.2
  have hn : (noneL cs).length = cs.length := by simp [noneL]
  have hz : zeros (noneL cs) ≤ cs.length := by have := zeros_le (noneL cs); omega
  rw [solsI, if_pos h]
  apply List.filter_congr
  intro t ht
  rw [tilesI, if_pos hr] at ht
  obtain ⟨h1, h2⟩ := allT_full hr cs.length (noneL cs) hz (lays_none W T cs) t ht
  simp only [solvedB, fairB, okB, hr, hd, h1, h2, Bool.true_and, Bool.and_true]

end Go.Proofs.Dev

namespace Go.Proofs.Dev
set_option linter.unusedSimpArgs false

/-- A list has all dominoes of another. -/
def hasB (ls p : List Int) : Bool := allB ls.length fun k => decide (ati ls k = 0) || decide (ati p k = ati ls k)

theorem hasB_iff {ls p : List Int} : hasB ls p = true ↔ ∀ k : Nat, k < ls.length → ati ls k = 0 ∨ ati p k = ati ls k := by
  simp only [hasB, allB_iff, Bool.or_eq_true, decide_eq_true_eq]

theorem hasB_refl (ls : List Int) : hasB ls ls = true := hasB_iff.2 fun _ _ => .inr rfl

theorem firstI_min {p : Nat → Bool} {n k : Nat} (h : firstI p n = k) : ∀ j, j < k → p j = false := by
  intro j hj
  unfold firstI at h
  split at h
  · rename_i k' hk
    rw [List.find?_range_eq_some] at hk
    have : k' = k := by omega
    subst this
    have := hk.2.2 j hj
    simpa using this
  · omega

theorem ati_lay {W T : Int} {ls : List Int} {cell way : Int} (hc : cell.toNat < ls.length) (hto : (stepI W T cell way).toNat < ls.length) (j : Nat) :
    ati (layI W T ls cell way) j = if j = (stepI W T cell way).toNat then backI way else if j = cell.toNat then way else ati ls j := by
  unfold layI
  rw [ati_set (by simpa using hto), ati_set hc]

theorem free_facts {W T : Int} {cs : List Bool} {ls : List Int} {k : Nat} {way : Int} (hr : regB W T cs = true) (hl : ls.length = cs.length) (hf : freeB W T cs ls k way = true) :
    ∃ t : Nat, stepI W T k way = t ∧ t < ls.length ∧ k < ls.length ∧ t ≠ k ∧ 1 ≤ way ∧ way ≤ 4 ∧ stepI W T t (backI way) = k ∧ atb cs t = true ∧ ati ls k = 0 ∧ ati ls t = 0 ∧
      ∀ j : Nat, ati (layI W T ls k way) j = if j = t then backI way else if j = k then way else ati ls j := by
  obtain ⟨w1, w2, t1, t2, l1, _⟩ := regB_W hr
  simp only [freeB, decide_eq_true_eq] at hf
  obtain ⟨f0, f1, f2, f3, f4, f5, f6⟩ := hf
  obtain ⟨b1, b2, b3, b4, b5⟩ := step_back (T := T) w1 f0 (by omega) f2
  have e : stepI W T k way = ((stepI W T k way).toNat : Nat) := by omega
  refine ⟨(stepI W T k way).toNat, e, by omega, by omega, by omega, b2, b3, by rw [← e]; exact b1, by rw [← e]; exact f4, f5, by rw [← e]; exact f6, ?_⟩
  intro j
  rw [ati_lay (by omega) (by omega)]
  simp

theorem allT_has {W T : Int} {cs : List Bool} (hr : regB W T cs = true) : ∀ (n : Nat) (ls : List Int), ls.length = cs.length → ∀ p ∈ allT W T cs n ls, hasB ls p = true := by
  intro n
  induction n with
  | zero =>
    intro ls hl p hp
    simp only [allT, List.mem_singleton] at hp
    subst hp; exact hasB_refl p
  | succ n ih =>
    intro ls hl p hp
    rw [allT] at hp
    split at hp
    · simp only [List.mem_singleton] at hp
      subst hp; exact hasB_refl p
    rcases bare_cases cs ls with h | ⟨k, hk, he, hc, hzk⟩
    · omega
    rw [he] at hp
    have step : ∀ way : Int, freeB W T cs ls k way = true → p ∈ allT W T cs n (layI W T ls k way) → hasB ls p = true := by
      intro way hf hm
      obtain ⟨t, e, t1, t2, t3, _, _, _, _, z1, z2, hat⟩ := free_facts hr hl hf
      have h1 := hasB_iff.1 (ih _ (by rw [layI_length]; exact hl) p hm)
      rw [hasB_iff]
      intro j hj
      have h2 := h1 j (by rw [layI_length]; exact hj)
      rw [hat j] at h2
      by_cases e1 : j = t
      · subst e1; exact .inl z2
      by_cases e2 : j = k
      · subst e2; exact .inl z1
      rw [if_neg e1, if_neg e2] at h2
      exact h2
    rw [List.mem_append] at hp
    rcases hp with hp | hp
    · split at hp
      · rename_i hf; exact step 1 hf hp
      · cases hp
    · split at hp
      · rename_i hf; exact step 2 hf hp
      · cases hp

theorem ati_ext {a b : List Int} (hl : a.length = b.length) (h : ∀ k : Nat, k < a.length → ati a k = ati b k) : a = b := by
  apply List.ext_getElem hl
  intro i h1 h2
  have := h i h1
  simpa [ati, h1, h2] using this

theorem lays_at {W T : Int} {cs : List Bool} {ls : List Int} (hy : laysB W T cs ls = true) {k : Nat} (hk : k < ls.length) (hv : ati ls k ≠ 0) :
    1 ≤ ati ls k ∧ ati ls k ≤ 4 ∧ atb cs k = true ∧ 0 ≤ stepI W T k (ati ls k) ∧ atb cs (stepI W T k (ati ls k)) = true ∧ ati ls (stepI W T k (ati ls k)) = backI (ati ls k) := by
  simp only [laysB, Bool.and_eq_true, decide_eq_true_eq, allB_iff] at hy
  have := hy.2 k hk
  simp only [layAt, decide_eq_true_eq] at this
  rcases this with h | h
  · exact absurd h hv
  · exact h

theorem lays_len {W T : Int} {cs : List Bool} {ls : List Int} (hy : laysB W T cs ls = true) : ls.length = cs.length := by
  simp only [laysB, Bool.and_eq_true, decide_eq_true_eq] at hy; exact hy.1

/-- A cell that a domino of a list reaches at the back is not bare. -/
theorem lays_back {W T : Int} {cs : List Bool} {ls : List Int} (hr : regB W T cs = true) (hy : laysB W T cs ls = true) {k t : Nat} {way : Int} (hk : k < ls.length) (ht : stepI W T k way = t) (hv : ati ls t = backI way) : ati ls k = way := by
  obtain ⟨w1, w2, t1, t2, l1, _⟩ := regB_W hr
  have hl := lays_len hy
  obtain ⟨b1, b2, b3, b4, b5⟩ := step_back (W := W) (T := T) (k := k) (way := way) w1 (by omega) (by omega) (by omega)
  obtain ⟨c1, c2, c3⟩ := backI_back b2 b3
  obtain ⟨_, _, _, _, _, g⟩ := lays_at hy (k := t) (by omega) (by omega)
  rw [hv, ← ht, b1, c1] at g
  exact g

theorem lay_has {W T : Int} {cs : List Bool} {b ls : List Int} {k : Nat} {way : Int} (hr : regB W T cs = true) (hb : b.length = cs.length) (hf : freeB W T cs b k way = true) (hs : hasB b ls = true) (h1 : ati ls k = way) (h2 : ati ls (stepI W T k way) = backI way) :
    hasB (layI W T b k way) ls = true := by
  obtain ⟨t, e, t1, t2, t3, _, _, _, _, z1, z2, hat⟩ := free_facts hr hb hf
  rw [e] at h2
  rw [hasB_iff] at hs ⊢
  intro j hj
  rw [layI_length] at hj
  rw [hat j]
  by_cases e1 : j = t
  · subst e1; rw [if_pos rfl]; exact .inr h2
  rw [if_neg e1]
  by_cases e2 : j = k
  · subst e2; rw [if_pos rfl]; exact .inr h1
  rw [if_neg e2]
  exact hs j hj

theorem full_same {W T : Int} {cs : List Bool} {b ls : List Int} (hyb : laysB W T cs b = true) (hyl : laysB W T cs ls = true) (hs : hasB b ls = true) (h : bareI cs b < 0) : ls = b := by
  have hbl := lays_len hyb
  have hll := lays_len hyl
  refine ati_ext (by omega) fun k hk => ?_
  rcases hasB_iff.1 hs k (by omega) with h1 | h1
  · have h2 := firstI_neg h k (by omega)
    by_cases hv : ati ls k = 0
    · omega
    · obtain ⟨_, _, g, _⟩ := lays_at hyl hk hv
      simp [bareB, h1, g] at h2
  · exact h1

theorem filter_leaf {W T : Int} {cs : List Bool} {b ls : List Int} (m n : Nat) (hyb : laysB W T cs b = true) (hyl : laysB W T cs ls = true) (hs : hasB b ls = true) (h : bareI cs b < 0) :
    (allT W T cs m b).filter (hasB ls) = allT W T cs n ls := by
  have e := full_same hyb hyl hs h
  subst e
  rw [allT_leaf _ h, allT_leaf _ h]
  simp [hasB_refl]

theorem allT_filter {W T : Int} {cs : List Bool} (hr : regB W T cs = true) : ∀ (m : Nat) (b ls : List Int) (n : Nat), zeros b ≤ m → zeros ls ≤ n → laysB W T cs b = true → laysB W T cs ls = true → hasB b ls = true →
    (allT W T cs m b).filter (hasB ls) = allT W T cs n ls := by
  obtain ⟨w1, w2, t1, t2, l1, _⟩ := regB_W hr
  intro m
  induction m with
  | zero =>
    intro b ls n hzb hzl hyb hyl hs
    rcases bare_cases cs b with h | ⟨k, hk, he, hc, hzk⟩
    · exact filter_leaf 0 n hyb hyl hs (by omega)
    · have := zeros_pos hk hzk
      omega
  | succ m ih =>
    intro b ls n hzb hzl hyb hyl hs
    rcases bare_cases cs b with h | ⟨k, hk, he, hc, hzk⟩
    · exact filter_leaf (m + 1) n hyb hyl hs (by omega)
    have hbl := lays_len hyb
    have hll := lays_len hyl
    have hk0 : ¬ (k : Int) < 0 := by omega
    have hmin : ∀ j, j < k → bareB cs b j = false := firstI_min he
    rw [allT, he, if_neg hk0, List.filter_append]
    by_cases hv : ati ls k = 0
    · have hbk : bareI cs ls = k := by
        refine firstI_hit (by omega) (by simp [bareB, hc, hv]) (fun j hj => ?_)
        have h1 := hmin j hj
        rcases hasB_iff.1 hs j (by omega) with h2 | h2
        · simp [bareB, h2] at h1
          simp [bareB, h1]
        · simp only [bareB] at h1 ⊢
          rw [h2]; exact h1
      have hzp := zeros_pos (ls := ls) (k := k) (by omega) hv
      obtain ⟨n', rfl⟩ : ∃ n', n = n' + 1 := ⟨n - 1, by omega⟩
      have stepA : ∀ way : Int, 1 ≤ way → way ≤ 4 → (if freeB W T cs b k way then allT W T cs m (layI W T b k way) else []).filter (hasB ls) = (if freeB W T cs ls k way then allT W T cs n' (layI W T ls k way) else []) := by
        intro way v1 v4
        by_cases hf : freeB W T cs ls k way = true
        · obtain ⟨t, e, a1, a2, a3, _, _, a6, a7, z1, z2, hat⟩ := free_facts hr hll hf
          have hfb : freeB W T cs b k way = true := by
            simp only [freeB, decide_eq_true_eq] at hf ⊢
            obtain ⟨f0, f1, f2, f3, f4, f5, f6⟩ := hf
            refine ⟨f0, by omega, f2, f3, f4, hzk, ?_⟩
            rw [e]
            rcases hasB_iff.1 hs t (by omega) with h2 | h2
            · exact h2
            · rw [← h2]; exact z2
          rw [if_pos hf, if_pos hfb]
          have hzb' : zeros (layI W T b k way) < zeros b := lay_zeros hk hzk v1 v4
          have hzl' : zeros (layI W T ls k way) < zeros ls := lay_zeros (by omega) hv v1 v4
          obtain ⟨t', e', _, _, _, _, _, _, _, y1, y2, hatb⟩ := free_facts hr hbl hfb
          have et : t' = t := by omega
          subst et
          have hs' : hasB (layI W T b k way) (layI W T ls k way) = true := by
            rw [hasB_iff]
            intro j hj
            rw [layI_length] at hj
            rw [hatb j, hat j]
            by_cases e1 : j = t'
            · rw [if_pos e1, if_pos e1]; exact .inr rfl
            by_cases e2 : j = k
            · rw [if_neg e1, if_neg e1, if_pos e2, if_pos e2]; exact .inr rfl
            rw [if_neg e1, if_neg e1, if_neg e2, if_neg e2]
            exact hasB_iff.1 hs j hj
          rw [← ih _ _ n' (by omega) (by omega) (lay_ok hr hyb hfb) (lay_ok hr hyl hf) hs']
          apply List.filter_congr
          intro p hp
          have hp1 := hasB_iff.1 (allT_has hr m _ (by rw [layI_length]; exact hbl) p hp)
          rw [Bool.eq_iff_iff, hasB_iff, hasB_iff]
          constructor
          · intro h j hj
            rw [layI_length] at hj
            rw [hat j]
            by_cases e1 : j = t'
            · have h5 := hp1 j (by rw [layI_length]; omega)
              rw [hatb j, if_pos e1] at h5
              rw [if_pos e1]; exact h5
            by_cases e2 : j = k
            · have h5 := hp1 j (by rw [layI_length]; omega)
              rw [hatb j, if_neg e1, if_pos e2] at h5
              rw [if_neg e1, if_pos e2]; exact h5
            rw [if_neg e1, if_neg e2]
            exact h j hj
          · intro h j hj
            have h3 := h j (by rw [layI_length]; exact hj)
            rw [hat j] at h3
            by_cases e1 : j = t'
            · subst e1; exact .inl z2
            by_cases e2 : j = k
            · subst e2; exact .inl z1
            rw [if_neg e1, if_neg e2] at h3
            exact h3
        · rw [if_neg hf]
          by_cases hfb : freeB W T cs b k way = true
          · rw [if_pos hfb, List.filter_eq_nil_iff]
            intro p hp hh
            obtain ⟨t, e, a1, a2, a3, _, _, a6, a7, y1, y2, hatb⟩ := free_facts hr hbl hfb
            have hp1 := hasB_iff.1 (allT_has hr m _ (by rw [layI_length]; exact hbl) p hp) t (by rw [layI_length]; exact a1)
            rw [hatb t, if_pos rfl] at hp1
            have hb4 := (backI_back v1 v4).2
            have hpt : ati p t = backI way := by omega
            have hlt : ati ls t ≠ 0 := by
              intro h0
              apply hf
              simp only [freeB, decide_eq_true_eq] at hfb ⊢
              obtain ⟨f0, f1, f2, f3, f4, _, _⟩ := hfb
              refine ⟨f0, f1, f2, f3, f4, hv, ?_⟩
              rw [e]; exact h0
            have hl2 := hasB_iff.1 hh t (by omega)
            have hl3 : ati ls t = backI way := by omega
            have := lays_back hr hyl (k := k) (t := t) (way := way) (by omega) e hl3
            omega
          · rw [if_neg hfb]; rfl
      rw [stepA 1 (by omega) (by omega), stepA 2 (by omega) (by omega), allT.eq_2, hbk, if_neg hk0]
    · obtain ⟨v1, v4, g3, g4, g5, g6⟩ := lays_at hyl (k := k) (by omega) hv
      obtain ⟨v, hvv⟩ : ∃ v, ati ls k = v := ⟨_, rfl⟩
      rw [hvv] at v1 v4 g4 g5 g6 hv
      obtain ⟨_, _, _, _, b5⟩ := step_back (W := W) (T := T) (k := k) (way := v) w1 (by omega) (by omega) g4
      obtain ⟨t, ht⟩ : ∃ t : Nat, stepI W T k v = t := ⟨(stepI W T k v).toNat, by omega⟩
      have hbt : ati b t = 0 := by
        rcases hasB_iff.1 hs t (by omega) with h | h
        · exact h
        · exfalso
          rw [ht] at g6
          have := lays_back hr hyb (k := k) (t := t) (way := v) hk ht (by rw [← h]; exact g6)
          omega
      have h12 : v = 1 ∨ v = 2 := by
        by_cases h3 : v ≤ 2
        · omega
        exfalso
        have hlt : t < k := by
          unfold stepI at ht
          have h4 : v = 3 ∨ v = 4 := by omega
          rcases h4 with rfl | rfl
          · simp at ht
            split at ht <;> omega
          · simp at ht
            split at ht <;> omega
        have h1 := hmin t hlt
        rw [ht] at g5
        simp [bareB, g5] at h1
        exact h1 hbt
      have hfb : freeB W T cs b k v = true := by
        simp only [freeB, decide_eq_true_eq]
        exact ⟨by omega, by omega, g4, hc, g5, hzk, by rw [ht]; exact hbt⟩
      have hzb' : zeros (layI W T b k v) < zeros b := lay_zeros hk hzk v1 v4
      have hA := ih (layI W T b k v) ls n (by omega) hzl (lay_ok hr hyb hfb) hyl (lay_has hr hbl hfb hs hvv g6)
      have other : ∀ w : Int, w ≠ v → (if freeB W T cs b k w then allT W T cs m (layI W T b k w) else []).filter (hasB ls) = [] := by
        intro w hw
        split
        · rename_i hfw
          rw [List.filter_eq_nil_iff]
          intro p hp hh
          obtain ⟨t', e, a1, a2, a3, a4, a5, _, _, _, _, hatb⟩ := free_facts hr hbl hfw
          have hp1 := hasB_iff.1 (allT_has hr m _ (by rw [layI_length]; exact hbl) p hp) k (by rw [layI_length]; exact hk)
          rw [hatb k, if_neg (fun e => a3 e.symm), if_pos rfl] at hp1
          have h7 := hasB_iff.1 hh k (by omega)
          rw [hvv] at h7
          omega
        · rfl
      rcases h12 with rfl | rfl
      · rw [other 2 (by omega), if_pos hfb, hA, List.append_nil]
      · rw [other 1 (by omega), if_pos hfb, hA, List.nil_append]

/-- The solutions that have the dominoes of a fair list. -/
theorem sols_has {W T : Int} {cs : List Bool} {ds ls : List Int} (hok : okB W T cs ds ls = true) : (allT W T cs cs.length ls).filter (fun t => onceB (pairsI W T ds t)) = (solsI W T cs ds).filter (hasB ls) := by
  have hok' := hok
  simp only [okB, Bool.and_eq_true] at hok'
  obtain ⟨hr, hd, hy⟩ := hok'
  have hl := lays_len hy
  have hz : zeros ls ≤ cs.length := by have := zeros_le ls; omega
  have hn : (noneL cs).length = cs.length := by simp [noneL]
  have hzn : zeros (noneL cs) ≤ cs.length := by have := zeros_le (noneL cs); omega
  rw [sols_fair (by simp only [hr, hd, Bool.and_self]), tilesI, if_pos hr, List.filter_filter]
  rw [← allT_filter hr cs.length (noneL cs) ls cs.length hzn hz (lays_none W T cs) hy (hasB_iff.2 fun k _ => .inl (ati_none cs k)), List.filter_filter]
  congr 1
  funext t
  exact Bool.and_comm _ _

end Go.Proofs.Dev

namespace Go.Proofs.Dev
set_option linter.unusedSimpArgs false

def clr (G : Nat → Bool) (j : Nat) : Nat → Bool := fun i => G i && !(decide (i = j))
/-- In how many ways the free cells from a cell on are covered. -/
def cntF (W T : Int) : Nat → Nat → (Nat → Bool) → Nat
  | 0, _, _ => 1
  | f + 1, c, G => if G c = true then (if 0 ≤ stepI W T c 1 ∧ G (c + 1) = true then cntF W T f (c + 1) (clr G (c + 1)) else 0) + (if 0 ≤ stepI W T c 2 ∧ G (c + W.toNat) = true then cntF W T f (c + 1) (clr G (c + W.toNat)) else 0)
    else cntF W T f (c + 1) G

theorem cntF_congr {W T : Int} : ∀ (f c : Nat) {G G' : Nat → Bool}, (∀ i, c ≤ i → G i = G' i) → cntF W T f c G = cntF W T f c G'
  | 0, _, _, _, _ => rfl
  | f + 1, c, G, G', h => by
    have h1 := cntF_congr (W := W) (T := T) f (c + 1) (G := G) (G' := G') (fun i hi => h i (by omega))
    have h2 := cntF_congr (W := W) (T := T) f (c + 1) (G := clr G (c + 1)) (G' := clr G' (c + 1)) (fun i hi => by simp [clr, h i (by omega)])
    have h3 := cntF_congr (W := W) (T := T) f (c + 1) (G := clr G (c + W.toNat)) (G' := clr G' (c + W.toNat)) (fun i hi => by simp [clr, h i (by omega)])
    simp only [cntF, h c (Nat.le_refl c), h (c + 1) (by omega), h (c + W.toNat) (by omega), h1, h2, h3]

theorem cntF_skip {W T : Int} (f : Nat) {G : Nat → Bool} : ∀ (d c : Nat), (∀ i, c ≤ i → i < c + d → G i = false) → cntF W T (f + d) c G = cntF W T f (c + d) G
  | 0, c, _ => rfl
  | d + 1, c, h => by
    have h0 := h c (Nat.le_refl c) (by omega)
    have h1 := cntF_skip (W := W) (T := T) f d (c + 1) (fun i h2 h3 => h i (by omega) (by omega))
    rw [show f + (d + 1) = (f + d) + 1 by omega, cntF, if_neg (by simp [h0]), h1, show c + 1 + d = c + (d + 1) by omega]

theorem cntF_le {W T : Int} : ∀ (f c : Nat) (G : Nat → Bool), cntF W T f c G ≤ 2 ^ f
  | 0, _, _ => by simp [cntF]
  | f + 1, c, G => by
    have h1 := cntF_le (W := W) (T := T) f (c + 1) G
    have h2 := cntF_le (W := W) (T := T) f (c + 1) (clr G (c + 1))
    have h3 := cntF_le (W := W) (T := T) f (c + 1) (clr G (c + W.toNat))
    rw [cntF, Nat.pow_succ]
    split
    · split <;> split <;> omega
    · omega

theorem stepE {W T : Int} {c : Nat} (h : 0 ≤ stepI W T c 1) : stepI W T c 1 = ((c + 1 : Nat) : Int) := by
  unfold stepI at h ⊢
  by_cases hc : (c : Int) % W < W - 1
  · simp [hc]
  · simp [hc] at h
theorem stepN {W T : Int} {c : Nat} (hW : 1 ≤ W) (h : 0 ≤ stepI W T c 2) : stepI W T c 2 = ((c + W.toNat : Nat) : Int) := by
  unfold stepI at h ⊢
  by_cases hc : (c : Int) / W < T - 1
  · simp [hc]; omega
  · simp [hc] at h

/-- The count of the ways to lay on all free cells is that of the tilings. -/
theorem cnt_allT {W T : Int} {cs : List Bool} (hr : regB W T cs = true) : ∀ (n : Nat) (ls : List Int), zeros ls ≤ n → laysB W T cs ls = true → cntF W T cs.length 0 (bareB cs ls) = (allT W T cs n ls).length := by
  obtain ⟨w1, w2, t1, t2, l1, _⟩ := regB_W hr
  intro n
  induction n with
  | zero =>
    intro ls hz hy
    have hlen : ls.length = cs.length := by simp only [laysB, Bool.and_eq_true, decide_eq_true_eq] at hy; exact hy.1
    have hf : ∀ i, 0 ≤ i → i < 0 + cs.length → bareB cs ls i = false := by
      intro i _ hi
      cases hb : bareB cs ls i with
      | false => rfl
      | true =>
        simp only [bareB, Bool.and_eq_true, decide_eq_true_eq] at hb
        have := zeros_set_lt (ls := ls) (i := i) (v := 1) (by omega) hb.2 (by omega)
        omega
    have := cntF_skip (W := W) (T := T) 0 cs.length 0 hf
    rw [Nat.zero_add] at this
    rw [this]; simp [cntF, allT]
  | succ n ih =>
    intro ls hz hy
    have hlen : ls.length = cs.length := by simp only [laysB, Bool.and_eq_true, decide_eq_true_eq] at hy; exact hy.1
    rcases bare_cases cs ls with hb | ⟨c, hc, hb, hcs, hls⟩
    · have hf : ∀ i, 0 ≤ i → i < 0 + cs.length → bareB cs ls i = false := by
        intro i _ hi
        exact firstI_neg (p := bareB cs ls) (n := ls.length) (by unfold bareI at hb; omega) i (by omega)
      have := cntF_skip (W := W) (T := T) 0 cs.length 0 hf
      rw [Nat.zero_add] at this
      rw [this]; simp [cntF, allT, hb]
    have hmin := firstI_min (by unfold bareI at hb; exact hb)
    have hGc : bareB cs ls c = true := by simp [bareB, hcs, hls]
    obtain ⟨m, hm⟩ : ∃ m, cs.length = (m + 1) + c := ⟨cs.length - c - 1, by omega⟩
    have hskip := cntF_skip (W := W) (T := T) (m + 1) (G := bareB cs ls) c 0 (fun i _ hi => hmin i (by omega))
    rw [← hm, Nat.zero_add] at hskip
    rw [hskip, cntF, if_pos hGc, allT]
    have hneg : ¬ bareI cs ls < 0 := by omega
    rw [if_neg hneg, List.length_append, hb]
    -- one direction
    have one : ∀ (way d : Nat), (way = 1 ∨ way = 2) → (0 ≤ stepI W T c way → stepI W T c way = ((c + d : Nat) : Int)) → 1 ≤ d →
        (if 0 ≤ stepI W T c way ∧ bareB cs ls (c + d) = true then cntF W T m (c + 1) (clr (bareB cs ls) (c + d)) else 0) = (if freeB W T cs ls c way = true then allT W T cs n (layI W T ls c way) else []).length := by
      intro way d hw hst hd
      have hfree : freeB W T cs ls c way = true ↔ (0 ≤ stepI W T c way ∧ bareB cs ls (c + d) = true) := by
        simp only [freeB, decide_eq_true_eq, bareB, Bool.and_eq_true]
        constructor
        · rintro ⟨_, _, h2, _, h4, _, h6⟩
          have e := hst h2
          rw [e] at h4 h6
          exact ⟨h2, h4, h6⟩
        · rintro ⟨h2, h4, h6⟩
          have e := hst h2
          rw [e]
          exact ⟨by omega, by omega, by omega, hcs, h4, hls, h6⟩
      by_cases hfr : freeB W T cs ls c way = true
      · rw [if_pos hfr, if_pos (hfree.1 hfr)]
        have h2 := (hfree.1 hfr).1
        have e := hst h2
        have hlt := (step_back (T := T) (k := c) (way := way) w1 (by omega) (by omega) h2).2.2.2.2
        have hto : (stepI W T c way).toNat < ls.length := by omega
        have hzz := lay_zeros (W := W) (T := T) (ls := ls) (k := c) (way := way) hc hls (by omega) (by omega)
        rw [← ih (layI W T ls c way) (by omega) (lay_ok hr hy hfr)]
        obtain ⟨t, et, _, _, _, v1, v4, _, _, _, _, hA⟩ := free_facts hr hlen hfr
        have etd : t = c + d := by omega
        have hat : ∀ i : Nat, bareB cs (layI W T ls c way) i = (bareB cs ls i && !decide (i = c) && !decide (i = c + d)) := by
          intro i
          have hbk : backI way ≠ 0 := by
            have := (backI_back v1 v4).2
            omega
          simp only [bareB, hA i]
          by_cases e1 : i = t
          · have e3 : i = c + d := by omega
            rw [if_pos e1]; simp [hbk, e3]
          · have e3 : ¬ i = c + d := by omega
            by_cases e2 : i = c
            · have hw0 : (way : Int) ≠ 0 := by omega
              have hw1 : ¬ way = 0 := by omega
              rw [if_neg e1, if_pos e2]; simp [hw1, e2]
            · rw [if_neg e1, if_neg e2]; simp [e2, e3]
        have hsk := cntF_skip (W := W) (T := T) m (G := bareB cs (layI W T ls c way)) (c + 1) 0 (fun i _ hi => by
          rw [hat]
          by_cases e1 : i = c
          · simp [e1]
          · rw [hmin i (by omega)]; rfl)
        rw [Nat.zero_add, show m + (c + 1) = cs.length by omega] at hsk
        rw [hsk]
        apply cntF_congr
        intro i hi
        rw [hat]
        have e2 : ¬ i = c := by omega
        simp [clr, e2]
      · rw [if_neg hfr, if_neg (fun h => hfr (hfree.2 h))]
        rfl
    have h1 := one 1 1 (.inl rfl) (fun h => stepE h) (by omega)
    have h2 := one 2 W.toNat (.inr rfl) (fun h => stepN w1 h) (by omega)
    have e1 : ((1 : Nat) : Int) = 1 := rfl
    have e2 : ((2 : Nat) : Int) = 2 := rfl
    rw [e1] at h1
    rw [e2] at h2
    rw [h1, h2]

/-! Sets of covered cells, as bits. -/
def setG (F : Nat → Bool) (c s : Nat) : Nat → Bool := fun i => F i && !(s.testBit (i - c))

def optsN (W T : Int) (F : Nat → Bool) (c s : Nat) : List Nat :=
  if s % 2 = 1 ∨ F c = false then [s / 2] else
    (if 0 ≤ stepI W T c 1 ∧ F (c + 1) = true ∧ s / 2 % 2 = 0 then [s / 2 + 1] else []) ++ (if 0 ≤ stepI W T c 2 ∧ F (c + W.toNat) = true then [s / 2 + 2 ^ (W.toNat - 1)] else [])

theorem bit_half (s i c : Nat) (h : c + 1 ≤ i) : (s / 2).testBit (i - (c + 1)) = s.testBit (i - c) := by
  rw [show i - c = (i - (c + 1)) + 1 by omega, Nat.testBit_succ]
theorem bit_even {x : Nat} (h : x % 2 = 0) (j : Nat) : (x + 1).testBit j = (decide (j = 0) || x.testBit j) := by
  cases j with
  | zero => rw [Nat.testBit_zero]; simp; omega
  | succ j => rw [Nat.testBit_succ, Nat.testBit_succ, show (x + 1) / 2 = x / 2 by omega]; simp
theorem bit_top {x k : Nat} (h : x < 2 ^ k) (j : Nat) : (x + 2 ^ k).testBit j = (decide (j = k) || x.testBit j) := by
  rw [Nat.add_comm]
  rcases Nat.lt_trichotomy j k with h1 | h1 | h1
  · rw [Nat.testBit_two_pow_add_gt h1]; simp; omega
  · subst h1; rw [Nat.testBit_two_pow_add_eq, Nat.testBit_lt_two_pow h]; simp
  · have e1 : (2 ^ k + x) < 2 ^ j := by
      have : 2 ^ (k + 1) ≤ 2 ^ j := Nat.pow_le_pow_right (by omega) (by omega)
      rw [Nat.pow_succ] at this
      omega
    rw [Nat.testBit_lt_two_pow e1, Nat.testBit_lt_two_pow (by omega)]; simp; omega

/-- The ways from a cell on are the sum of those behind its choices. -/
theorem opts_sum {W T : Int} (hW : 1 ≤ W) (F : Nat → Bool) (f c s : Nat) (hs : s < 2 ^ W.toNat) :
    ((optsN W T F c s).map fun o => cntF W T f (c + 1) (setG F (c + 1) o)).sum = cntF W T (f + 1) c (setG F c s) := by
  have hw : W.toNat = (W.toNat - 1) + 1 := by omega
  have hs2 : s / 2 < 2 ^ (W.toNat - 1) := by rw [hw, Nat.pow_succ] at hs; omega
  have hzero : s.testBit 0 = decide (s % 2 = 1) := by rw [Nat.testBit_zero]
  unfold optsN
  by_cases h : s % 2 = 1 ∨ F c = false
  · rw [if_pos h]
    have hG : ¬ setG F c s c = true := by
      simp only [setG, Nat.sub_self, hzero]
      rcases h with h | h <;> simp [h]
    rw [cntF, if_neg hG]
    simp only [List.map_cons, List.map_nil, List.sum_cons, List.sum_nil, Nat.add_zero]
    apply cntF_congr
    intro i hi
    simp only [setG, bit_half s i c hi]
  · rw [if_neg h]
    have h1 : s % 2 = 0 := by omega
    have h2 : F c = true := by
      cases hF : F c with
      | true => rfl
      | false => exact absurd (.inr hF) h
    have hG : setG F c s c = true := by simp only [setG, Nat.sub_self, hzero, h2]; simp; omega
    have hGe : setG F c s (c + 1) = (F (c + 1) && decide (s / 2 % 2 = 0)) := by
      simp only [setG, show c + 1 - c = 0 + 1 by omega, Nat.testBit_succ, Nat.testBit_zero]
      congr 1
      rcases Nat.mod_two_eq_zero_or_one (s / 2) with h3 | h3 <;> simp [h3]
    have hGn : setG F c s (c + W.toNat) = F (c + W.toNat) := by
      simp only [setG, show c + W.toNat - c = W.toNat by omega, Nat.testBit_lt_two_pow hs]; simp
    rw [cntF, if_pos hG, List.map_append, List.sum_append, hGe, hGn]
    congr 1
    · by_cases h3 : 0 ≤ stepI W T c 1 ∧ F (c + 1) = true ∧ s / 2 % 2 = 0
      · rw [if_pos h3, if_pos (by simp [h3.1, h3.2.1, h3.2.2])]
        simp only [List.map_cons, List.map_nil, List.sum_cons, List.sum_nil, Nat.add_zero]
        apply cntF_congr
        intro i hi
        simp only [setG, clr, bit_even h3.2.2, bit_half s i c hi]
        by_cases e : i = c + 1
        · simp [e]
        · have : ¬ i - (c + 1) = 0 := by omega
          simp [e, this]
      · rw [if_neg h3, if_neg (fun h4 => h3 (by simpa using h4))]
        rfl
    · by_cases h3 : 0 ≤ stepI W T c 2 ∧ F (c + W.toNat) = true
      · rw [if_pos h3, if_pos h3]
        simp only [List.map_cons, List.map_nil, List.sum_cons, List.sum_nil, Nat.add_zero]
        apply cntF_congr
        intro i hi
        simp only [setG, clr, bit_top hs2, bit_half s i c hi]
        by_cases e : i = c + W.toNat
        · subst e
          have : c + W.toNat - (c + 1) = W.toNat - 1 := by omega
          simp [this]
        · have : ¬ i - (c + 1) = W.toNat - 1 := by omega
          simp [e, this]
      · rw [if_neg h3, if_neg h3]
        rfl

theorem opts_lt {W T : Int} (hW : 1 ≤ W) {F : Nat → Bool} {n c s o : Nat} (hn : ∀ i, n ≤ i → F i = false) (hc : c < n) (h1 : s < 2 ^ W.toNat) (h2 : s < 2 ^ (n - c)) (ho : o ∈ optsN W T F c s) : o < 2 ^ W.toNat ∧ o < 2 ^ (n - (c + 1)) := by
  have hw : W.toNat = (W.toNat - 1) + 1 := by omega
  have hnc : n - c = (n - (c + 1)) + 1 := by omega
  have e1 : 2 ^ W.toNat = 2 ^ (W.toNat - 1) * 2 := by conv => lhs; rw [hw, Nat.pow_succ]
  have e2 : 2 ^ (n - c) = 2 ^ (n - (c + 1)) * 2 := by conv => lhs; rw [hnc, Nat.pow_succ]
  have p1 : 0 < 2 ^ (W.toNat - 1) := Nat.pow_pos (by omega)
  unfold optsN at ho
  split at ho
  · simp at ho; subst ho; omega
  · rcases List.mem_append.1 ho with ho | ho
    · split at ho
      · rename_i h
        simp at ho; subst ho
        have : c + 1 < n := by
          rcases Nat.lt_or_ge (c + 1) n with h5 | h5
          · exact h5
          · rw [hn _ h5] at h; simp at h
        have e3 : 2 ^ (n - (c + 1)) = 2 ^ (n - (c + 1) - 1) * 2 := by rw [← Nat.pow_succ]; congr 1; omega
        have h6 := h.2.2
        have h7 : s / 2 + 1 < 2 ^ W.toNat := by omega
        refine ⟨h7, ?_⟩
        omega
      · cases ho
    · split at ho
      · rename_i h
        simp at ho; subst ho
        have : c + W.toNat < n := by
          rcases Nat.lt_or_ge (c + W.toNat) n with h5 | h5
          · exact h5
          · rw [hn _ h5] at h; simp at h
        have h8 : 2 ^ W.toNat ≤ 2 ^ (n - (c + 1)) := Nat.pow_le_pow_right (by omega) (by omega)
        omega
      · cases ho

theorem opts_len {W T : Int} {F : Nat → Bool} {c s : Nat} : (optsN W T F c s).length ≤ 2 := by
  unfold optsN
  split
  · simp
  · rw [List.length_append]; split <;> split <;> simp

/-! Sets with their ways. -/
def addP : List (Nat × Nat) → Nat → Nat → List (Nat × Nat)
  | [], o, v => [(o, v)]
  | p :: P, o, v => if p.1 = o then (o, p.2 + v) :: P else p :: addP P o v

def wsum (g : Nat → Nat) (P : List (Nat × Nat)) : Nat := (P.map fun p => p.2 * g p.1).sum

theorem wsum_addP (g : Nat → Nat) : ∀ (P : List (Nat × Nat)) (o v : Nat), wsum g (addP P o v) = wsum g P + v * g o
  | [], o, v => by simp [addP, wsum]
  | p :: P, o, v => by
    have ih := wsum_addP g P o v
    unfold wsum at ih ⊢
    simp only [addP]
    split
    · rename_i h
      simp only [List.map_cons, List.sum_cons, h, Nat.add_mul]; omega
    · simp only [List.map_cons, List.sum_cons, ih]; omega

theorem addP_length : ∀ (P : List (Nat × Nat)) (o v : Nat), (addP P o v).length ≤ P.length + 1
  | [], o, v => by simp [addP]
  | p :: P, o, v => by
    have ih := addP_length P o v
    simp only [addP]; split <;> simp; omega

theorem addP_mem : ∀ (P : List (Nat × Nat)) (o v : Nat) (q : Nat × Nat), q ∈ addP P o v → q.1 = o ∨ ∃ p ∈ P, q.1 = p.1
  | [], o, v, q, h => by simp [addP] at h; left; rw [h]
  | p :: P, o, v, q, h => by
    simp only [addP] at h
    split at h
    · rcases List.mem_cons.1 h with h | h
      · left; rw [h]
      · right; exact ⟨q, List.mem_cons_of_mem _ h, rfl⟩
    · rcases List.mem_cons.1 h with h | h
      · right; exact ⟨p, by simp, by rw [h]⟩
      · rcases addP_mem P o v q h with h | ⟨p', h1, h2⟩
        · left; exact h
        · right; exact ⟨p', List.mem_cons_of_mem _ h1, h2⟩

theorem addP_new : ∀ {P : List (Nat × Nat)} {o : Nat} (v : Nat), (∀ p ∈ P, p.1 ≠ o) → addP P o v = P ++ [(o, v)]
  | [], o, v, _ => rfl
  | p :: P, o, v, h => by
    simp only [addP]
    rw [if_neg (h p (by simp)), addP_new v (fun q hq => h q (by simp [hq]))]; rfl

theorem addP_at : ∀ {P : List (Nat × Nat)} {o i u : Nat} (v : Nat), P[i]? = some (o, u) → (∀ j, j < i → ∀ p, P[j]? = some p → p.1 ≠ o) → addP P o v = P.set i (o, u + v)
  | [], o, i, u, v, h, _ => by simp at h
  | p :: P, o, 0, u, v, h, _ => by
    simp at h
    simp [addP, h]
  | p :: P, o, i + 1, u, v, h, h2 => by
    simp only [addP]
    rw [if_neg (h2 0 (by omega) p (by simp)), addP_at v (i := i) (u := u) (by simpa using h) (fun j hj q hq => h2 (j + 1) (by omega) q (by simpa using hq))]
    rfl

def addAll (P : List (Nat × Nat)) (os : List Nat) (v : Nat) : List (Nat × Nat) := os.foldl (fun P o => addP P o v) P
theorem wsum_addAll (g : Nat → Nat) (v : Nat) : ∀ (os : List Nat) (P : List (Nat × Nat)), wsum g (addAll P os v) = wsum g P + v * (os.map g).sum
  | [], P => by simp [addAll]
  | o :: os, P => by
    have := wsum_addAll g v os (addP P o v)
    unfold addAll at this ⊢
    rw [List.foldl_cons, this, wsum_addP, List.map_cons, List.sum_cons, Nat.mul_add]; omega

theorem addAll_length (v : Nat) : ∀ (os : List Nat) (P : List (Nat × Nat)), (addAll P os v).length ≤ P.length + os.length
  | [], P => by simp [addAll]
  | o :: os, P => by
    have := addAll_length v os (addP P o v)
    have h2 := addP_length P o v
    unfold addAll at this ⊢
    rw [List.foldl_cons, List.length_cons]; omega

theorem addAll_mem (v : Nat) : ∀ (os : List Nat) (P : List (Nat × Nat)) (q : Nat × Nat), q ∈ addAll P os v → q.1 ∈ os ∨ ∃ p ∈ P, q.1 = p.1
  | [], P, q, h => .inr ⟨q, h, rfl⟩
  | o :: os, P, q, h => by
    rcases addAll_mem v os (addP P o v) q h with h | ⟨p, h1, h2⟩
    · left; simp [h]
    · rcases addP_mem P o v p h1 with h3 | ⟨p', h3, h4⟩
      · left; simp [h2, h3]
      · right; exact ⟨p', h3, h2.trans h4⟩

/-- What holds of the sets with their ways, at a cell. -/
structure OkP (W T : Int) (F : Nat → Bool) (n c tot : Nat) (P : List (Nat × Nat)) : Prop where
  lt : ∀ p ∈ P, p.1 < 2 ^ W.toNat ∧ p.1 < 2 ^ (n - c)
  tot : wsum (fun s => cntF W T (n - c) c (setG F c s)) P = tot
  sum : wsum (fun _ => 1) P ≤ 2 ^ c
  len : P.length ≤ 2 ^ c

/-- In the midst of a step: some sets have been gone through. -/
structure MidP (W T : Int) (F : Nat → Bool) (n c : Nat) (P : List (Nat × Nat)) (k : Nat) (Q : List (Nat × Nat)) : Prop where
  lt : ∀ p ∈ Q, p.1 < 2 ^ W.toNat ∧ p.1 < 2 ^ (n - (c + 1))
  tot : wsum (fun s => cntF W T (n - (c + 1)) (c + 1) (setG F (c + 1) s)) Q = wsum (fun s => cntF W T (n - c) c (setG F c s)) (P.take k)
  sum : wsum (fun _ => 1) Q ≤ 2 * wsum (fun _ => 1) (P.take k)
  len : Q.length ≤ 2 * k

theorem sum_ones {α : Type} : ∀ l : List α, (l.map fun _ => 1).sum = l.length
  | [] => rfl
  | x :: l => by rw [List.map_cons, List.sum_cons, sum_ones l, List.length_cons]; omega

theorem wsum_append (g : Nat → Nat) (P Q : List (Nat × Nat)) : wsum g (P ++ Q) = wsum g P + wsum g Q := by simp [wsum]
theorem wsum_take (g : Nat → Nat) (P : List (Nat × Nat)) (k : Nat) : wsum g (P.take k) ≤ wsum g P := by
  have := wsum_append g (P.take k) (P.drop k)
  rw [List.take_append_drop] at this
  omega

theorem mid_zero {W T : Int} {F : Nat → Bool} {n c : Nat} {P : List (Nat × Nat)} : MidP W T F n c P 0 [] := ⟨by simp, by simp [wsum], by simp [wsum], by simp⟩

theorem mid_step {W T : Int} {F : Nat → Bool} {n c tot k : Nat} {P Q : List (Nat × Nat)} {s v : Nat} (hW : 1 ≤ W) (hn : ∀ i, n ≤ i → F i = false) (hc : c < n) (hP : OkP W T F n c tot P) (hk : P[k]? = some (s, v)) (hQ : MidP W T F n c P k Q) :
    MidP W T F n c P (k + 1) (addAll Q (optsN W T F c s) v) := by
  have hmem : (s, v) ∈ P := List.mem_of_getElem? hk
  have hlt := hP.lt _ hmem
  have ht : P.take (k + 1) = P.take k ++ [(s, v)] := by rw [List.take_add_one, hk]; rfl
  have hol := opts_len (W := W) (T := T) (F := F) (c := c) (s := s)
  refine ⟨?_, ?_, ?_, ?_⟩
  · intro q hq
    rcases addAll_mem v _ _ q hq with h | ⟨p, h1, h2⟩
    · exact opts_lt hW hn hc hlt.1 hlt.2 h
    · rw [h2]; exact hQ.lt p h1
  · have e : n - c = (n - (c + 1)) + 1 := by omega
    rw [wsum_addAll, hQ.tot, ht, wsum_append, opts_sum hW F (n - (c + 1)) c s hlt.1, ← e]
    simp [wsum]
  · rw [wsum_addAll, ht, wsum_append]
    have h1 := hQ.sum
    have h2 : v * ((optsN W T F c s).map fun _ => 1).sum ≤ v * 2 := Nat.mul_le_mul_left _ (by rw [sum_ones]; exact hol)
    have h3 : wsum (fun _ => 1) [(s, v)] = v := by simp [wsum]
    omega
  · have := addAll_length v (optsN W T F c s) Q
    have := hQ.len
    omega

theorem mid_end {W T : Int} {F : Nat → Bool} {n c tot : Nat} {P Q : List (Nat × Nat)} (hP : OkP W T F n c tot P) (hQ : MidP W T F n c P P.length Q) : OkP W T F n (c + 1) tot Q := by
  have e := List.take_length (l := P)
  refine ⟨hQ.lt, ?_, ?_, ?_⟩
  · rw [hQ.tot, e, hP.tot]
  · have h1 := hQ.sum
    have h2 := hP.sum
    rw [e] at h1
    rw [Nat.pow_succ]; omega
  · have h1 := hQ.len
    have h2 := hP.len
    rw [Nat.pow_succ]; omega

theorem okP_start {W T : Int} {F : Nat → Bool} {n : Nat} (hW : 1 ≤ W) : OkP W T F n 0 (cntF W T n 0 F) [(0, 1)] := by
  refine ⟨?_, ?_, ?_, ?_⟩
  · intro p hp
    simp at hp; subst hp
    exact ⟨Nat.pow_pos (by omega), Nat.pow_pos (by omega)⟩
  · have : setG F 0 0 = F := by funext i; simp [setG]
    simp [wsum, this]
  · simp [wsum]
  · simp

theorem okP_end {W T : Int} {F : Nat → Bool} {n tot : Nat} {P : List (Nat × Nat)} (hP : OkP W T F n n tot P) : (∀ p ∈ P, p.1 = 0) ∧ wsum (fun _ => 1) P = tot := by
  refine ⟨fun p hp => ?_, ?_⟩
  · have := (hP.lt p hp).2
    rw [Nat.sub_self] at this
    simpa using this
  · have := hP.tot
    rw [Nat.sub_self] at this
    simpa [cntF] using this

end Go.Proofs.Dev

namespace Go.Proofs.Dev

-- 1 parameters, results [.t 5], 14 slots, modes [false]
@[simp] abbrev n_impl_Region_solutions_1 : Nat := 144

def c_impl_Region_solutions_1 : ACode := .seq (.reg [.o 5 .mv [.kb false]]) <| .seq (.seq (.reg [.la 6 3 1, .l 7 2, .m 8 0, .o 9 (.call 107 []) [.t 6, .t 7,
 .t 8]]) <| .cond (.t 9) ( .reg [.l 10 3, .m 11 0, .o 12 (.bsl 1) [.t 11], .o 13 (.app 1 24 false) [.t 10, .t 12], .s (.store 1) [.t 3, .t 13]]) ( .skip)) <|
 .seq (.reg [.o 5 .mv [.kb true]]) <| .ret

theorem k_impl_Region_solutions_1 : cFn Tryz.prog n_impl_Region_solutions_1 14 [.t 5] c_impl_Region_solutions_1 := ⟨Tryz.f144, _, Tryz.func144, rfl, by kernel_rfl, by kernel_rfl, by kernel_rfl, by kernel_rfl⟩

-- 3 parameters, results [.t 6], 61 slots, modes [false, false, true]
@[simp] abbrev n_impl_Region_each : Nat := 143
def c_impl_Region_each_L0 : ACode := .seq (.seq (.reg [.m 10 7, .m 11 1, .n 12 11, .o 13 (.bin .lss 0) [.t 10, .t 12], .m 14 13, .fg 15 2 3 14 true,
 .lg 16 15 14 true, .mg 17 7 14 true, .g 18 (.iadr 1) [.t 16, .t 17] 14 true, .lg 19 18 14 true, .g 20 (.un .not) [.t 19] 14 true, .mg 21 20 14 true,
 .mg 22 1 21 false, .mg 23 7 21 false, .g 24 (.iadr 1) [.t 22, .t 23] 21 false, .lg 25 24 21 false, .g 26 (.bin .neq 0) [.t 25, .k 0] 21 false,
 .g 27 .pick [.t 21, .kb true, .t 26] 14 true, .o 28 .pick [.t 14, .t 27, .kb false]]) <| .cond (.t 28) ( .skip) ( .exit 0)) <| .block 1 ( .reg [.m 29 7,
 .o 30 (.bin .add 0) [.t 29, .k 1], .m 7 30])

abbrev c_impl_Region_each_L1_p0 : Plan := .al (.g 57 (.call 143 []) [.t 50, .t 55, .t 56] 49 true) ( .take (.g 58 (.un .not) [.t 57] 49 true) <| .take (.o 59 .pick [.t 49, .t 58, .kb false]) <| .done)
abbrev c_impl_Region_each_L1_p1 : Plan := .al (.g 55 (.call 172 []) [.t 51, .t 52, .t 53, .t 54] 49 true) c_impl_Region_each_L1_p0
def c_impl_Region_each_L1 : ACode := .seq (.reg [.o 41 (.bin .lss 0) [.t 40, .t 39]]) <| .seq (.cond (.t 41) ( .skip) ( .exit 2)) <|
 .seq (.block 3 ( .seq (.reg [.o 42 (.iadr 1) [.t 38, .t 40], .l 43 42, .m 9 43]) <| .seq (.draw ( .take (.m 45 1) <| .take (.m 46 7) <| .take (.m 47 9) <|
 .al (.la 44 3 3) ( .al (.o 48 (.call 171 []) [.t 44, .t 45, .t 46, .t 47]) ( .take (.m 49 48) <| .take (.mg 52 1 49 true) <| .take (.mg 53 7 49 true) <|
 .take (.mg 54 9 49 true) <| .take (.mg 56 2 49 true) <|
 .alt (.g 50 (.load true 3) [.t 3] 49 true) ( .al (.g 51 (.load true 3) [.t 3] 49 true) c_impl_Region_each_L1_p1) <| .al (.g 51 (.load true 3) [.t 3] 49 true) ( .alt (.g 50 (.load true 3) [.t 3] 49 true) c_impl_Region_each_L1_p1 <| .al (.g 55 (.call 172 []) [.t 51, .t 52, .t 53,
 .t 54] 49 true) ( .al (.g 50 (.load true 3) [.t 3] 49 true) c_impl_Region_each_L1_p0)))))) <|
 .cond (.t 59) ( .seq (.reg [.o 6 .mv [.kb false]]) <| .ret) ( .skip))) <| .reg [.o 60 (.bin .add 0) [.t 40, .k 1], .m 40 60]

def c_impl_Region_each : ACode := .seq (.reg [.o 3 .box [.t 0], .o 6 .mv [.kb false]]) <| .seq (.reg [.o 7 .mv [.k 0]]) <| .seq (.block 0 ( .loop [(1, 1)] [1,
 2, 3, 7, 63] c_impl_Region_each_L0)) <| .seq (.seq (.reg [.m 31 7, .m 32 1, .n 33 32, .o 34 (.bin .eql 0) [.t 31, .t 33]]) <|
 .cond (.t 34) ( .seq (.reg [.m 35 2, .m 36 1, .o 37 (.callv []) [.t 35, .t 36], .m 6 37]) <| .ret) ( .skip)) <| .seq (.seq (.reg [.o 38 (.bsl 1) [.k 1, .k 2],
 .n 39 38, .o 40 .mv [.k 0]]) <| .block 2 ( .loop [(1, 1), (38, 1)] [1, 2, 3, 7, 38, 39, 40, 63] c_impl_Region_each_L1)) <| .seq (.reg [.o 6 .mv [.kb true]]) <|
 .ret

theorem k_impl_Region_each : cFn Tryz.prog n_impl_Region_each 61 [.t 6] c_impl_Region_each := ⟨Tryz.f143, _, Tryz.func143, rfl, by kernel_rfl, by kernel_rfl, by kernel_rfl, by kernel_rfl⟩

-- 3 parameters, results [.t 6], 15 slots, modes [false, false, false]
@[simp] abbrev n_impl_Region_solutions : Nat := 100
def c_impl_Region_solutions_T0 : ACode := .seq (.reg [.l 13 7, .o 14 (.call 145 []) [.t 13], .m 6 14]) <| .ret

def c_impl_Region_solutions : ACode := .seq (.reg [.o 3 .box [.t 0], .o 4 .box [.t 1], .o 6 .mv [.c (.os 1 [])]]) <|
 .seq (.reg [.o 7 (.alloc [.os 1 []]) []]) <| .seq (.draw ( .take (.m 9 2) <| .take (.o 11 (.mkfn 144) [.t 3, .t 4, .t 7]) <|
 .alt (.la 8 3 3) ( .al (.o 10 (.call 58 []) [.t 9]) ( .al (.o 12 (.call 143 []) [.t 8, .t 10, .t 11]) ( .done))) <|
 .al (.o 10 (.call 58 []) [.t 9]) ( .al (.la 8 3 3) ( .al (.o 12 (.call 143 []) [.t 8, .t 10, .t 11]) ( .done))))) <| .gc [] [7] c_impl_Region_solutions_T0

theorem k_impl_Region_solutions : cFn Tryz.prog n_impl_Region_solutions 15 [.t 6] c_impl_Region_solutions := ⟨Tryz.f100, _, Tryz.func100, rfl, by kernel_rfl, by kernel_rfl, by kernel_rfl, by kernel_rfl⟩

end Go.Proofs.Dev

namespace Go.Proofs.Dev
set_option linter.unusedSimpArgs false
set_option maxRecDepth 100000

def keepL (W T : Int) (ds t : List Int) : List (List Int) := if onceB (pairsI W T ds t) then [t] else []

end Go.Proofs.Dev
