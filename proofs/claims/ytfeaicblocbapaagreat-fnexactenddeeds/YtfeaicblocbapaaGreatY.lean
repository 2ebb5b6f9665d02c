/- Contracts of the functions of the program over slots and rows, each proved against the program itself; no condition beyond those that each theorem names. -/
import Derived.Test.YtfeaicblocbapaaGreatW
import Derived.Test.YtfeaicblocbapaaGreatProg
import Derived.Test.YtfeaicblocbapaaGreatX

set_option linter.unusedSimpArgs false
set_option linter.unusedVariables false

namespace Go.Proofs.Dev

-- 2 parameters, results [.t 4], 32 slots, modes [false, false]
@[simp] abbrev n_spec_LaidMany : Nat := 47
def c_spec_LaidMany_L0 : ACode :=
  .seq (.seq (.reg [⟨(some 11), .mv, [.t 6], none⟩,
    ⟨(some 12), .mv, [.t 1], none⟩,
    ⟨(some 13), .len false, [.t 12], none⟩,
    ⟨(some 14), .bin .lss 0, [.t 11, .t 13], none⟩]) <|
  .cond (.t 14) (
    .skip) (
    .exit 0)) <|
  .seq (.block 1 (
    .seq (.reg [⟨(some 17), .mv, [.t 1], none⟩,
      ⟨(some 18), .mv, [.t 6], none⟩,
      ⟨(some 19), .iadr 1, [.t 17, .t 18], none⟩,
      ⟨(some 20), .load false 1, [.t 19], none⟩,
      ⟨(some 21), .bin .eql 0, [.t 20, .c (.v (.int .i64 (1)))], none⟩,
      ⟨(some 22), .mv, [.t 21], none⟩,
      ⟨(some 23), .mv, [.t 1], (some (22, false))⟩,
      ⟨(some 24), .mv, [.t 6], (some (22, false))⟩,
      ⟨(some 25), .iadr 1, [.t 23, .t 24], (some (22, false))⟩,
      ⟨(some 26), .load false 1, [.t 25], (some (22, false))⟩,
      ⟨(some 27), .bin .eql 0, [.t 26, .c (.v (.int .i64 (2)))], (some (22, false))⟩,
      ⟨(some 28), .pick, [.t 22, .c (.v (.bool true)), .t 27], none⟩]) <|
    .cond (.t 28) (
      .reg [⟨(some 29), .mv, [.t 5], none⟩,
        ⟨(some 30), .bin .add 0, [.t 29, .c (.v (.int .i64 (1)))], none⟩,
        ⟨(some 5), .mv, [.t 30], none⟩]) (
      .skip))) <|
  .reg [⟨(some 15), .mv, [.t 6], none⟩,
    ⟨(some 16), .bin .add 0, [.t 15, .c (.v (.int .i64 (1)))], none⟩,
    ⟨(some 6), .mv, [.t 16], none⟩]

def c_spec_LaidMany : ACode :=
  .seq (.reg [⟨(some 2), .box, [.t 0], none⟩,
    ⟨(some 4), .mv, [.c (.v (.int .i64 (0)))], none⟩]) <|
  .seq (.seq (.reg [⟨(some 7), .load true 3, [.t 2], none⟩,
    ⟨(some 8), .mv, [.t 1], none⟩,
    ⟨(some 9), .call 67 [], [.t 7, .t 8], none⟩,
    ⟨(some 10), .un .not, [.t 9], none⟩]) <|
  .cond (.t 10) (
    .seq (.reg [⟨(some 4), .mv, [.c (.v (.int .i64 (-1)))], none⟩]) <|
    .ret) (
    .skip)) <|
  .seq (.reg [⟨(some 5), .mv, [.c (.v (.int .i64 (0)))], none⟩]) <|
  .seq (.seq (.reg [⟨(some 6), .mv, [.c (.v (.int .i64 (0)))], none⟩]) <|
  .block 0 (
    .loop [(1, 1)] [1, 5, 6] c_spec_LaidMany_L0)) <|
  .seq (.reg [⟨(some 31), .mv, [.t 5], none⟩,
    ⟨(some 4), .mv, [.t 31], none⟩]) <|
  .ret

theorem k_spec_LaidMany : cFn Tryz.prog n_spec_LaidMany 32 [.t 4] c_spec_LaidMany := ⟨Tryz.f47, _, Tryz.func47, rfl, by kernel_rfl, by kernel_rfl, by kernel_rfl, by kernel_rfl⟩

end Go.Proofs.Dev

namespace Go.Proofs.Dev
set_option linter.unusedSimpArgs false
set_option maxRecDepth 100000

/-- How many dominoes begin in a list. -/
def isDom (x : Int) : Bool := decide (x = 1) || decide (x = 2)
def domN (ls : List Int) : Nat := ls.countP isDom
theorem domN_succ {ls : List Int} {i : Nat} (h : i < ls.length) : domN (ls.take (i + 1)) = domN (ls.take i) + (if isDom (ati ls i) then 1 else 0) := by
  have e : ati ls i = ls[i] := by simp [ati, h]
  rw [e, List.take_succ_eq_append_getElem h, domN, List.countP_append, List.countP_singleton]
  rfl
theorem domN_le (ls : List Int) : domN ls ≤ ls.length := List.countP_le_length

theorem s_spec_LaidMany (W T : Int) (cs : List Bool) (ls : List Int) (hb : cs.length < 2 ^ 40) (hl : ls.length < 2 ^ 40) :
    SoundAt Tryz.prog n_spec_LaidMany [.agg [.v (.int .i64 W), .v (.int .i64 T), .sl 1 1 (bools cs)], .sl 1 1 (ints ls)] (.v (.int .i64 (if regB W T cs && laysB W T cs ls then (domN ls : Int) else -1))) [.bot, .bot] := by
  refine fn_ok (md := md0) (ms := [false, false]) k_spec_LaidMany (by simp) ?_
  simp [c_spec_LaidMany]
  refine call_on (s_spec_LaidOk W T cs ls hb hl) ?_
  cases hr : (regB W T cs && laysB W T cs ls) with
  | false =>
    have : ¬ (regB W T cs = true ∧ laysB W T cs ls = true) := by simpa using hr
    simp [this]
  | true =>
  have : regB W T cs = true ∧ laysB W T cs ls = true := by simpa using hr
  simp [this]
  refine loop_by (fun m E H => ∃ i : Nat, m = ls.length - i ∧ i ≤ ls.length ∧ H = [] ∧ E = [(1, .sl 1 1 (ints ls)), (5, .v (.int .i64 (domN (ls.take i)))), (6, .v (.int .i64 i))]) ls.length ⟨0, by simp [domN]⟩ ?_
  rintro J hJ m E H ⟨i, rfl, hi, rfl, rfl⟩
  by_cases h : i < ls.length
  case neg =>
    have : i = ls.length := by omega
    subst this
    simp [c_spec_LaidMany_L0]
  have hs := domN_succ h
  have hle : domN (ls.take i) ≤ i := by have := domN_le (ls.take i); simp at this; omega
  have next : ∀ v : Int, v = domN (ls.take (i + 1)) → again J (ls.length - i) [(1, .sl 1 1 (ints ls)), (5, .v (.int .i64 v)), (6, .v (.int .i64 (i + 1)))] [] := by
    rintro v rfl
    exact ⟨_, by omega, hJ _ _ _ ⟨i + 1, rfl, h, rfl, rfl⟩⟩
  by_cases e1 : ati ls i = 1
  · simp [isDom, e1] at hs
    simp [c_spec_LaidMany_L0, h, e1]
    exact ⟨by omega, by omega, next _ (by omega)⟩
  by_cases e2 : ati ls i = 2
  · simp [isDom, e2] at hs
    simp [c_spec_LaidMany_L0, h, e1, e2]
    exact ⟨by omega, by omega, next _ (by omega)⟩
  · simp [isDom, e1, e2] at hs
    simp [c_spec_LaidMany_L0, h, e1, e2]
    exact ⟨by omega, next _ (by omega)⟩

def leftI (W T : Int) (cs : List Bool) (ds ls : List Int) (ps : List (List Int)) : Int := if bookB W T cs ds ls ps then manyOf cs - 2 * domN ls else -1

end Go.Proofs.Dev

namespace Go.Proofs.Dev
set_option linter.unusedSimpArgs false
set_option maxRecDepth 100000

end Go.Proofs.Dev
