/- Contracts of the functions of the program over slots and rows, each proved against the program itself; no condition beyond those that each theorem names. -/
import Derived.Test.YtfkmfobbgoflgaaRows
import Derived.ProofKit
import Derived.Test.YtfkmfobbgoflgaaAH
import Derived.Test.YtfkmfobbgoflgaaProg

set_option linter.unusedSimpArgs false
set_option linter.unusedVariables false

namespace Go.Proofs.Ytfkmfobbgoflgaa

def headCodes : List Nat := [104, 97, 114, 110, 101, 115, 115, 32, 57, 98, 56, 51, 48, 48, 55, 50, 49, 98, 54, 57, 52, 54, 102, 55, 102, 97, 100, 55, 50, 100, 52, 101, 48, 100, 57, 52, 50, 98, 101, 49, 102, 54, 101, 50, 98, 99, 56, 51, 97, 97, 101, 50, 97, 51, 50, 53, 102, 102, 48, 53, 97, 51, 51, 56, 48, 48, 53, 97, 102, 55, 55, 54, 32, 99, 117, 116, 32, 97, 116, 32, 108, 111, 111, 112, 46, 101, 120, 97, 109, 112, 108, 101, 47, 100, 111, 109, 105, 110, 111, 116, 105, 108, 105, 110, 103, 115, 47, 108, 97, 119, 115, 46, 70, 110, 83, 111, 108, 117, 116, 105, 111, 110, 115, 77, 97, 110, 121]
theorem head_eq : Try.prog.initOrder = String.ofList (headCodes.map Char.ofNat) := by kernel_rfl
theorem head_list : Try.prog.initOrder.toList = headCodes.map Char.ofNat := by rw [head_eq, String.toList_ofList]
def restWords : List (List Nat) := [[97, 116], [108, 111, 111, 112, 46, 101, 120, 97, 109, 112, 108, 101, 47, 100, 111, 109, 105, 110, 111, 116, 105, 108, 105, 110, 103, 115, 47, 108, 97, 119, 115, 46, 70, 110, 83, 111, 108, 117, 116, 105, 111, 110, 115, 77, 97, 110, 121]]
theorem head_words : behindMainWord (wordsSigns Try.prog.initOrder.toList) = [Char.ofNat 99, Char.ofNat 117, Char.ofNat 116] :: restWords.map (·.map Char.ofNat) := by
  rw [head_list]
  kernel_rfl
theorem strip_head : stripLifts liftWords ([Char.ofNat 99, Char.ofNat 117, Char.ofNat 116] :: restWords.map (·.map Char.ofNat)) = ([], [Char.ofNat 99, Char.ofNat 117, Char.ofNat 116] :: restWords.map (·.map Char.ofNat)) := by kernel_rfl
theorem fact_laysLater : Try.prog.laysLater = false := by kernel_rfl
theorem fact_bearsReflect : Try.prog.bearsReflect = false := by kernel_rfl
theorem fact_doorFits : Try.prog.doorFits [] = true := by kernel_rfl
theorem fact_headLifts : Try.prog.headLifts = [] := by
  unfold Program.headLifts
  rw [head_words, strip_head]
  kernel_rfl
theorem gc_no : ([Char.ofNat 99, Char.ofNat 117, Char.ofNat 116] == "gc".toList) = false := by kernel_rfl
theorem spec_no : ([Char.ofNat 99, Char.ofNat 117, Char.ofNat 116] == "spec".toList) = false := by kernel_rfl
theorem cut_yes : ([Char.ofNat 99, Char.ofNat 117, Char.ofNat 116] == "cut".toList) = true := by kernel_rfl
theorem make_of {P : Program} {c : List Char} {rest : List (List Char)} (h : behindMainWord (wordsSigns P.initOrder.toList) = c :: rest) (h1 : (c == "gc".toList) = false) (h2 : (c == "spec".toList) = false) (h3 : (c == "cut".toList) = true) : P.make = some .cut := by
  unfold Program.make
  rw [h]
  simp only [h1, h2, h3, Bool.or_false, Bool.true_or, Bool.false_eq_true, if_false, if_true]
theorem mayEnter_of {P : Program} {c : List Char} {rest : List (List Char)} (h : behindMainWord (wordsSigns P.initOrder.toList) = c :: rest) (hs : stripLifts liftWords (c :: rest) = ([], c :: rest)) (h3 : (c == "cut".toList) = true)
    (hl : P.laysLater = false) (hb : P.bearsReflect = false) (hd : P.doorFits [] = true) : P.mayEnter = true := by
  unfold Program.mayEnter
  rw [h]
  have hh : (some c == some "cut".toList) = true := by
    rw [show c = "cut".toList by simpa using h3]
    exact beq_self_eq_true _
  simp only [hs, hl, hb, hd, List.head?_cons, hh, Bool.not_false, Bool.or_true, Bool.and_true, List.contains_nil]
theorem fact_mayEnter : Try.prog.mayEnter = true := mayEnter_of head_words strip_head cut_yes fact_laysLater fact_bearsReflect fact_doorFits
theorem fact_make : Try.prog.make = some .cut := make_of head_words gc_no spec_no cut_yes
theorem fact_liftsFinal : Try.prog.liftsFinal = false := by
  unfold Program.liftsFinal
  rw [head_words, fact_headLifts]
  kernel_rfl
end Go.Proofs.Ytfkmfobbgoflgaa

namespace Go.Proofs.Ytfkmfobbgoflgaa
open Go.ChangeShapes Go.WideShapes Go.ChangeAt Go.RowKit Go.Proofs.Dev

theorem own : ownKnob Try.prog.godebug = none := by kernel_rfl
theorem laidOut : laidOutB Try.prog = true := by kernel_rfl
theorem cells5 : Try.prog.cellsOf 5 = 1 := by kernel_rfl
theorem readable22 : Try.prog.readableRec 22 = true := by kernel_rfl

theorem RL.cons0 {C : Ctx} {a : AV} {bs : List AV} {u : Value} {us : List Value} (h : R C a [] u) (h' : RL C bs [] us) : RL C (a :: bs) [] (u :: us) := by
  rw [RL]; exact ⟨[], [], u, us, rfl, rfl, h, h'⟩
theorem RL.nil0 {C : Ctx} : RL C [] [] [] := by rw [RL]; exact ⟨rfl, rfl⟩

/-- What holds of bytes that may be kept holds of bytes that are read alone. -/
theorem byte_law {P : Program} {f : Nat} {bs : List Int} (h : SoundAt P f [.sl 0 1 (u8s bs)] (.v (.bool true)) [.bot]) : SoundAt P f [.sl 1 1 (u8s bs)] (.v (.bool true)) [.bot] := by
  refine SoundAt.lift (n := 1) (fun C S us hr => noOL_ok _ S us (noOL_u8s 1 bs) hr) rfl ?_
  have e : vwL 0 [AV.sl 1 1 (u8s bs)] = [AV.sl 0 1 (u8s bs)] := by simp [vwL, vw]
  rw [e]
  exact h
end Go.Proofs.Ytfkmfobbgoflgaa

namespace Go.Proofs.Dev

-- 3 parameters, results [.t 6], 15 slots, modes [false, false, false]
@[simp] abbrev n_spec_l1In : Nat := 29

def c_spec_l1In : ACode :=
  .seq (.reg [⟨(some 6), .mv, [.c (.v (.bool false))], none⟩]) <|
  .seq (.reg [⟨(some 7), .mv, [.t 0], none⟩,
    ⟨(some 8), .mv, [.t 1], none⟩,
    ⟨(some 9), .bin .geq 0, [.t 7, .t 8], none⟩,
    ⟨(some 10), .mv, [.t 9], none⟩,
    ⟨(some 11), .mv, [.t 0], (some (10, true))⟩,
    ⟨(some 12), .mv, [.t 2], (some (10, true))⟩,
    ⟨(some 13), .bin .leq 0, [.t 11, .t 12], (some (10, true))⟩,
    ⟨(some 14), .pick, [.t 10, .t 13, .c (.v (.bool false))], none⟩,
    ⟨(some 6), .mv, [.t 14], none⟩]) <|
  .ret

theorem k_spec_l1In : cFn Try.prog n_spec_l1In 15 [.t 6] c_spec_l1In := ⟨Try.f29, _, Try.func29, rfl, by kernel_rfl, by kernel_rfl, by kernel_rfl, by kernel_rfl⟩

-- 1 parameters, results [.t 2], 18 slots, modes [false]
@[simp] abbrev n_spec_l1Count : Nat := 49
def c_spec_l1Count_L0 : ACode :=
  .seq (.seq (.reg [⟨(some 5), .mv, [.t 4], none⟩,
    ⟨(some 6), .mv, [.t 0], none⟩,
    ⟨(some 7), .len false, [.t 6], none⟩,
    ⟨(some 8), .bin .lss 0, [.t 5, .t 7], none⟩]) <|
  .cond (.t 8) (
    .skip) (
    .exit 0)) <|
  .seq (.block 1 (
    .seq (.reg [⟨(some 11), .mv, [.t 0], none⟩,
      ⟨(some 12), .mv, [.t 4], none⟩,
      ⟨(some 13), .iadr 1, [.t 11, .t 12], none⟩,
      ⟨(some 14), .load false 1, [.t 13], none⟩]) <|
    .cond (.t 14) (
      .reg [⟨(some 15), .mv, [.t 3], none⟩,
        ⟨(some 16), .bin .add 0, [.t 15, .c (.v (.int .i64 (1)))], none⟩,
        ⟨(some 3), .mv, [.t 16], none⟩]) (
      .skip))) <|
  .reg [⟨(some 9), .mv, [.t 4], none⟩,
    ⟨(some 10), .bin .add 0, [.t 9, .c (.v (.int .i64 (1)))], none⟩,
    ⟨(some 4), .mv, [.t 10], none⟩]

def c_spec_l1Count : ACode :=
  .seq (.reg [⟨(some 2), .mv, [.c (.v (.int .i64 (0)))], none⟩]) <|
  .seq (.reg [⟨(some 3), .mv, [.c (.v (.int .i64 (0)))], none⟩]) <|
  .seq (.seq (.reg [⟨(some 4), .mv, [.c (.v (.int .i64 (0)))], none⟩]) <|
  .block 0 (
    .loop [(0, 1)] [0, 3, 4] c_spec_l1Count_L0)) <|
  .seq (.reg [⟨(some 17), .mv, [.t 3], none⟩,
    ⟨(some 2), .mv, [.t 17], none⟩]) <|
  .ret

theorem k_spec_l1Count : cFn Try.prog n_spec_l1Count 18 [.t 2] c_spec_l1Count := ⟨Try.f49, _, Try.func49, rfl, by kernel_rfl, by kernel_rfl, by kernel_rfl, by kernel_rfl⟩

-- 1 parameters, results [.t 2], 28 slots, modes [false]
@[simp] abbrev n_spec_RegionValid : Nat := 28

def c_spec_RegionValid : ACode :=
  .seq (.reg [⟨(some 1), .box, [.t 0], none⟩,
    ⟨(some 2), .mv, [.c (.v (.bool false))], none⟩]) <|
  .seq (.reg [⟨(some 3), .fadr 0, [.t 1], none⟩,
    ⟨(some 4), .load false 1, [.t 3], none⟩,
    ⟨(some 5), .call 29 [], [.t 4, .c (.v (.int .i64 (1))), .c (.v (.int .i64 (6)))], none⟩,
    ⟨(some 6), .mv, [.t 5], none⟩,
    ⟨(some 7), .fadr 1, [.t 1], (some (6, true))⟩,
    ⟨(some 8), .load false 1, [.t 7], (some (6, true))⟩,
    ⟨(some 9), .call 29 [], [.t 8, .c (.v (.int .i64 (1))), .c (.v (.int .i64 (6)))], (some (6, true))⟩,
    ⟨(some 10), .pick, [.t 6, .t 9, .c (.v (.bool false))], none⟩,
    ⟨(some 11), .mv, [.t 10], none⟩,
    ⟨(some 12), .fadr 2, [.t 1], (some (11, true))⟩,
    ⟨(some 13), .load false 1, [.t 12], (some (11, true))⟩,
    ⟨(some 14), .len false, [.t 13], (some (11, true))⟩,
    ⟨(some 15), .fadr 0, [.t 1], (some (11, true))⟩,
    ⟨(some 16), .load false 1, [.t 15], (some (11, true))⟩,
    ⟨(some 17), .fadr 1, [.t 1], (some (11, true))⟩,
    ⟨(some 18), .load false 1, [.t 17], (some (11, true))⟩,
    ⟨(some 19), .bin .mul 0, [.t 16, .t 18], (some (11, true))⟩,
    ⟨(some 20), .bin .eql 0, [.t 14, .t 19], (some (11, true))⟩,
    ⟨(some 21), .pick, [.t 11, .t 20, .c (.v (.bool false))], none⟩,
    ⟨(some 22), .mv, [.t 21], none⟩,
    ⟨(some 23), .fadr 2, [.t 1], (some (22, true))⟩,
    ⟨(some 24), .load false 1, [.t 23], (some (22, true))⟩,
    ⟨(some 25), .call 49 [], [.t 24], (some (22, true))⟩,
    ⟨(some 26), .bin .leq 0, [.t 25, .c (.v (.int .i64 (24)))], (some (22, true))⟩,
    ⟨(some 27), .pick, [.t 22, .t 26, .c (.v (.bool false))], none⟩,
    ⟨(some 2), .mv, [.t 27], none⟩]) <|
  .ret

theorem k_spec_RegionValid : cFn Try.prog n_spec_RegionValid 28 [.t 2] c_spec_RegionValid := ⟨Try.f28, _, Try.func28, rfl, by kernel_rfl, by kernel_rfl, by kernel_rfl, by kernel_rfl⟩

-- 2 parameters, results [.t 4], 51 slots, modes [false, false]
@[simp] abbrev n_spec_PuzzleValid : Nat := 14
def c_spec_PuzzleValid_L0 : ACode :=
  .seq (.seq (.reg [⟨(some 17), .mv, [.t 5], none⟩,
    ⟨(some 18), .mv, [.t 1], none⟩,
    ⟨(some 19), .len false, [.t 18], none⟩,
    ⟨(some 20), .bin .lss 0, [.t 17, .t 19], none⟩]) <|
  .cond (.t 20) (
    .skip) (
    .exit 0)) <|
  .seq (.block 1 (
    .seq (.reg [⟨(some 23), .fadr 2, [.t 2], none⟩,
      ⟨(some 24), .load false 1, [.t 23], none⟩,
      ⟨(some 25), .mv, [.t 5], none⟩,
      ⟨(some 26), .iadr 1, [.t 24, .t 25], none⟩,
      ⟨(some 27), .load false 1, [.t 26], none⟩,
      ⟨(some 28), .mv, [.t 27], none⟩,
      ⟨(some 29), .mv, [.t 1], (some (28, true))⟩,
      ⟨(some 30), .mv, [.t 5], (some (28, true))⟩,
      ⟨(some 31), .iadr 1, [.t 29, .t 30], (some (28, true))⟩,
      ⟨(some 32), .load false 1, [.t 31], (some (28, true))⟩,
      ⟨(some 33), .call 29 [], [.t 32, .c (.v (.int .i64 (0))), .c (.v (.int .i64 (6)))], (some (28, true))⟩,
      ⟨(some 34), .un .not, [.t 33], (some (28, true))⟩,
      ⟨(some 35), .pick, [.t 28, .t 34, .c (.v (.bool false))], none⟩,
      ⟨(some 36), .mv, [.t 35], none⟩,
      ⟨(some 37), .fadr 2, [.t 2], (some (36, false))⟩,
      ⟨(some 38), .load false 1, [.t 37], (some (36, false))⟩,
      ⟨(some 39), .mv, [.t 5], (some (36, false))⟩,
      ⟨(some 40), .iadr 1, [.t 38, .t 39], (some (36, false))⟩,
      ⟨(some 41), .load false 1, [.t 40], (some (36, false))⟩,
      ⟨(some 42), .un .not, [.t 41], (some (36, false))⟩,
      ⟨(some 43), .mv, [.t 42], (some (36, false))⟩,
      ⟨(some 44), .mv, [.t 1], (some (43, true))⟩,
      ⟨(some 45), .mv, [.t 5], (some (43, true))⟩,
      ⟨(some 46), .iadr 1, [.t 44, .t 45], (some (43, true))⟩,
      ⟨(some 47), .load false 1, [.t 46], (some (43, true))⟩,
      ⟨(some 48), .bin .neq 0, [.t 47, .c (.v (.int .i64 (-1)))], (some (43, true))⟩,
      ⟨(some 49), .pick, [.t 43, .t 48, .c (.v (.bool false))], (some (36, false))⟩,
      ⟨(some 50), .pick, [.t 36, .c (.v (.bool true)), .t 49], none⟩]) <|
    .cond (.t 50) (
      .seq (.reg [⟨(some 4), .mv, [.c (.v (.bool false))], none⟩]) <|
      .ret) (
      .skip))) <|
  .reg [⟨(some 21), .mv, [.t 5], none⟩,
    ⟨(some 22), .bin .add 0, [.t 21, .c (.v (.int .i64 (1)))], none⟩,
    ⟨(some 5), .mv, [.t 22], none⟩]

def c_spec_PuzzleValid : ACode :=
  .seq (.reg [⟨(some 2), .box, [.t 0], none⟩,
    ⟨(some 4), .mv, [.c (.v (.bool false))], none⟩]) <|
  .seq (.seq (.reg [⟨(some 6), .load true 3, [.t 2], none⟩,
    ⟨(some 7), .call 28 [], [.t 6], none⟩,
    ⟨(some 8), .un .not, [.t 7], none⟩,
    ⟨(some 9), .mv, [.t 8], none⟩,
    ⟨(some 10), .mv, [.t 1], (some (9, false))⟩,
    ⟨(some 11), .len false, [.t 10], (some (9, false))⟩,
    ⟨(some 12), .fadr 2, [.t 2], (some (9, false))⟩,
    ⟨(some 13), .load false 1, [.t 12], (some (9, false))⟩,
    ⟨(some 14), .len false, [.t 13], (some (9, false))⟩,
    ⟨(some 15), .bin .neq 0, [.t 11, .t 14], (some (9, false))⟩,
    ⟨(some 16), .pick, [.t 9, .c (.v (.bool true)), .t 15], none⟩]) <|
  .cond (.t 16) (
    .seq (.reg [⟨(some 4), .mv, [.c (.v (.bool false))], none⟩]) <|
    .ret) (
    .skip)) <|
  .seq (.seq (.reg [⟨(some 5), .mv, [.c (.v (.int .i64 (0)))], none⟩]) <|
  .block 0 (
    .loop [(1, 1)] [1, 2, 5] c_spec_PuzzleValid_L0)) <|
  .seq (.reg [⟨(some 4), .mv, [.c (.v (.bool true))], none⟩]) <|
  .ret

theorem k_spec_PuzzleValid : cFn Try.prog n_spec_PuzzleValid 51 [.t 4] c_spec_PuzzleValid := ⟨Try.f14, _, Try.func14, rfl, by kernel_rfl, by kernel_rfl, by kernel_rfl, by kernel_rfl⟩

-- 3 parameters, results [.t 6], 65 slots, modes [false, false, false]
@[simp] abbrev n_spec_l2Step : Nat := 47

def c_spec_l2Step : ACode :=
  .seq (.reg [⟨(some 3), .box, [.t 0], none⟩,
    ⟨(some 6), .mv, [.c (.v (.int .i64 (0)))], none⟩]) <|
  .seq (.block 0 (
    .seq (.draw (
      .take ⟨(some 8), .mv, [.t 2], none⟩ <|
      .take ⟨(some 9), .bin .eql 0, [.t 8, .c (.v (.int .i64 (1)))], none⟩ <|
      .take ⟨(some 10), .mv, [.t 9], none⟩ <|
      .take ⟨(some 11), .mv, [.t 1], (some (10, true))⟩ <|
      .take ⟨(some 12), .fadr 0, [.t 3], (some (10, true))⟩ <|
      .take ⟨(some 15), .fadr 0, [.t 3], (some (10, true))⟩ <|
      .alt ⟨(some 13), .load false 1, [.t 12], (some (10, true))⟩ (
        .take ⟨(some 14), .bin .rem 0, [.t 11, .t 13], (some (10, true))⟩ <|
        .alt ⟨(some 16), .load false 1, [.t 15], (some (10, true))⟩ (
          .take ⟨(some 17), .bin .sub 0, [.t 16, .c (.v (.int .i64 (1)))], (some (10, true))⟩ <|
          .take ⟨(some 18), .bin .lss 0, [.t 14, .t 17], (some (10, true))⟩ <|
          .take ⟨(some 19), .pick, [.t 10, .t 18, .c (.v (.bool false))], none⟩ <|
          .take ⟨(some 7), .mv, [.t 19], none⟩ <|
          .done) <|
        .stop) <|
      .alt ⟨(some 16), .load false 1, [.t 15], (some (10, true))⟩ (
        .take ⟨(some 17), .bin .sub 0, [.t 16, .c (.v (.int .i64 (1)))], (some (10, true))⟩ <|
        .alt ⟨(some 13), .load false 1, [.t 12], (some (10, true))⟩ (
          .take ⟨(some 14), .bin .rem 0, [.t 11, .t 13], (some (10, true))⟩ <|
          .take ⟨(some 18), .bin .lss 0, [.t 14, .t 17], (some (10, true))⟩ <|
          .take ⟨(some 19), .pick, [.t 10, .t 18, .c (.v (.bool false))], none⟩ <|
          .take ⟨(some 7), .mv, [.t 19], none⟩ <|
          .done) <|
        .stop) <|
      .stop)) <|
    .cond (.t 7) (
      .seq (.reg [⟨(some 20), .mv, [.t 1], none⟩,
        ⟨(some 21), .bin .add 0, [.t 20, .c (.v (.int .i64 (1)))], none⟩,
        ⟨(some 6), .mv, [.t 21], none⟩]) <|
      .ret) (
      .seq (.draw (
        .take ⟨(some 23), .mv, [.t 2], none⟩ <|
        .take ⟨(some 24), .bin .eql 0, [.t 23, .c (.v (.int .i64 (2)))], none⟩ <|
        .take ⟨(some 25), .mv, [.t 24], none⟩ <|
        .take ⟨(some 26), .mv, [.t 1], (some (25, true))⟩ <|
        .take ⟨(some 27), .fadr 0, [.t 3], (some (25, true))⟩ <|
        .take ⟨(some 30), .fadr 1, [.t 3], (some (25, true))⟩ <|
        .alt ⟨(some 28), .load false 1, [.t 27], (some (25, true))⟩ (
          .take ⟨(some 29), .bin .quo 0, [.t 26, .t 28], (some (25, true))⟩ <|
          .alt ⟨(some 31), .load false 1, [.t 30], (some (25, true))⟩ (
            .take ⟨(some 32), .bin .sub 0, [.t 31, .c (.v (.int .i64 (1)))], (some (25, true))⟩ <|
            .take ⟨(some 33), .bin .lss 0, [.t 29, .t 32], (some (25, true))⟩ <|
            .take ⟨(some 34), .pick, [.t 25, .t 33, .c (.v (.bool false))], none⟩ <|
            .take ⟨(some 22), .mv, [.t 34], none⟩ <|
            .done) <|
          .stop) <|
        .alt ⟨(some 31), .load false 1, [.t 30], (some (25, true))⟩ (
          .take ⟨(some 32), .bin .sub 0, [.t 31, .c (.v (.int .i64 (1)))], (some (25, true))⟩ <|
          .alt ⟨(some 28), .load false 1, [.t 27], (some (25, true))⟩ (
            .take ⟨(some 29), .bin .quo 0, [.t 26, .t 28], (some (25, true))⟩ <|
            .take ⟨(some 33), .bin .lss 0, [.t 29, .t 32], (some (25, true))⟩ <|
            .take ⟨(some 34), .pick, [.t 25, .t 33, .c (.v (.bool false))], none⟩ <|
            .take ⟨(some 22), .mv, [.t 34], none⟩ <|
            .done) <|
          .stop) <|
        .stop)) <|
      .cond (.t 22) (
        .seq (.reg [⟨(some 35), .mv, [.t 1], none⟩,
          ⟨(some 36), .fadr 0, [.t 3], none⟩,
          ⟨(some 37), .load false 1, [.t 36], none⟩,
          ⟨(some 38), .bin .add 0, [.t 35, .t 37], none⟩,
          ⟨(some 6), .mv, [.t 38], none⟩]) <|
        .ret) (
        .seq (.reg [⟨(some 40), .mv, [.t 2], none⟩,
          ⟨(some 41), .bin .eql 0, [.t 40, .c (.v (.int .i64 (3)))], none⟩,
          ⟨(some 42), .mv, [.t 41], none⟩,
          ⟨(some 43), .mv, [.t 1], (some (42, true))⟩,
          ⟨(some 44), .fadr 0, [.t 3], (some (42, true))⟩,
          ⟨(some 45), .load false 1, [.t 44], (some (42, true))⟩,
          ⟨(some 46), .bin .rem 0, [.t 43, .t 45], (some (42, true))⟩,
          ⟨(some 47), .bin .gtr 0, [.t 46, .c (.v (.int .i64 (0)))], (some (42, true))⟩,
          ⟨(some 48), .pick, [.t 42, .t 47, .c (.v (.bool false))], none⟩,
          ⟨(some 39), .mv, [.t 48], none⟩]) <|
        .cond (.t 39) (
          .seq (.reg [⟨(some 49), .mv, [.t 1], none⟩,
            ⟨(some 50), .bin .sub 0, [.t 49, .c (.v (.int .i64 (1)))], none⟩,
            ⟨(some 6), .mv, [.t 50], none⟩]) <|
          .ret) (
          .seq (.reg [⟨(some 52), .mv, [.t 2], none⟩,
            ⟨(some 53), .bin .eql 0, [.t 52, .c (.v (.int .i64 (4)))], none⟩,
            ⟨(some 54), .mv, [.t 53], none⟩,
            ⟨(some 55), .mv, [.t 1], (some (54, true))⟩,
            ⟨(some 56), .fadr 0, [.t 3], (some (54, true))⟩,
            ⟨(some 57), .load false 1, [.t 56], (some (54, true))⟩,
            ⟨(some 58), .bin .quo 0, [.t 55, .t 57], (some (54, true))⟩,
            ⟨(some 59), .bin .gtr 0, [.t 58, .c (.v (.int .i64 (0)))], (some (54, true))⟩,
            ⟨(some 60), .pick, [.t 54, .t 59, .c (.v (.bool false))], none⟩,
            ⟨(some 51), .mv, [.t 60], none⟩]) <|
          .cond (.t 51) (
            .seq (.reg [⟨(some 61), .mv, [.t 1], none⟩,
              ⟨(some 62), .fadr 0, [.t 3], none⟩,
              ⟨(some 63), .load false 1, [.t 62], none⟩,
              ⟨(some 64), .bin .sub 0, [.t 61, .t 63], none⟩,
              ⟨(some 6), .mv, [.t 64], none⟩]) <|
            .ret) (
            .skip)))))) <|
  .seq (.reg [⟨(some 6), .mv, [.c (.v (.int .i64 (-1)))], none⟩]) <|
  .ret

theorem k_spec_l2Step : cFn Try.prog n_spec_l2Step 65 [.t 6] c_spec_l2Step := ⟨Try.f47, _, Try.func47, rfl, by kernel_rfl, by kernel_rfl, by kernel_rfl, by kernel_rfl⟩

-- 1 parameters, results [.t 2], 7 slots, modes [false]
@[simp] abbrev n_spec_l2Back : Nat := 66

def c_spec_l2Back : ACode :=
  .seq (.reg [⟨(some 2), .mv, [.c (.v (.int .i64 (0)))], none⟩]) <|
  .seq (.reg [⟨(some 3), .mv, [.t 0], none⟩,
    ⟨(some 4), .bin .add 0, [.t 3, .c (.v (.int .i64 (1)))], none⟩,
    ⟨(some 5), .bin .rem 0, [.t 4, .c (.v (.int .i64 (4)))], none⟩,
    ⟨(some 6), .bin .add 0, [.t 5, .c (.v (.int .i64 (1)))], none⟩,
    ⟨(some 2), .mv, [.t 6], none⟩]) <|
  .ret

theorem k_spec_l2Back : cFn Try.prog n_spec_l2Back 7 [.t 2] c_spec_l2Back := ⟨Try.f66, _, Try.func66, rfl, by kernel_rfl, by kernel_rfl, by kernel_rfl, by kernel_rfl⟩

-- 2 parameters, results [.t 4], 72 slots, modes [false, false]
@[simp] abbrev n_spec_LaidOk : Nat := 64
def c_spec_LaidOk_L0 : ACode :=
  .seq (.seq (.reg [⟨(some 18), .mv, [.t 5], none⟩,
    ⟨(some 19), .mv, [.t 1], none⟩,
    ⟨(some 20), .len false, [.t 19], none⟩,
    ⟨(some 21), .bin .lss 0, [.t 18, .t 20], none⟩]) <|
  .cond (.t 21) (
    .skip) (
    .exit 0)) <|
  .seq (.block 1 (
    .seq (.seq (.reg [⟨(some 24), .mv, [.t 1], none⟩,
      ⟨(some 25), .mv, [.t 5], none⟩,
      ⟨(some 26), .iadr 1, [.t 24, .t 25], none⟩,
      ⟨(some 27), .load false 1, [.t 26], none⟩,
      ⟨(some 28), .bin .eql 0, [.t 27, .c (.v (.int .i64 (0)))], none⟩]) <|
    .cond (.t 28) (
      .exit 1) (
      .skip)) <|
    .seq (.seq (.reg [⟨(some 29), .mv, [.t 1], none⟩,
      ⟨(some 30), .mv, [.t 5], none⟩,
      ⟨(some 31), .iadr 1, [.t 29, .t 30], none⟩,
      ⟨(some 32), .load false 1, [.t 31], none⟩,
      ⟨(some 33), .call 29 [], [.t 32, .c (.v (.int .i64 (1))), .c (.v (.int .i64 (4)))], none⟩,
      ⟨(some 34), .un .not, [.t 33], none⟩,
      ⟨(some 35), .mv, [.t 34], none⟩,
      ⟨(some 36), .fadr 2, [.t 2], (some (35, false))⟩,
      ⟨(some 37), .load false 1, [.t 36], (some (35, false))⟩,
      ⟨(some 38), .mv, [.t 5], (some (35, false))⟩,
      ⟨(some 39), .iadr 1, [.t 37, .t 38], (some (35, false))⟩,
      ⟨(some 40), .load false 1, [.t 39], (some (35, false))⟩,
      ⟨(some 41), .un .not, [.t 40], (some (35, false))⟩,
      ⟨(some 42), .pick, [.t 35, .c (.v (.bool true)), .t 41], none⟩]) <|
    .cond (.t 42) (
      .seq (.reg [⟨(some 4), .mv, [.c (.v (.bool false))], none⟩]) <|
      .ret) (
      .skip)) <|
    .seq (.draw (
      .take ⟨(some 44), .mv, [.t 5], none⟩ <|
      .take ⟨(some 45), .mv, [.t 1], none⟩ <|
      .take ⟨(some 46), .mv, [.t 5], none⟩ <|
      .take ⟨(some 47), .iadr 1, [.t 45, .t 46], none⟩ <|
      .alt ⟨(some 43), .load true 3, [.t 2], none⟩ (
        .alt ⟨(some 48), .load false 1, [.t 47], none⟩ (
          .alt ⟨(some 49), .call 47 [], [.t 43, .t 44, .t 48], none⟩ (
            .take ⟨(some 6), .mv, [.t 49], none⟩ <|
            .done) <|
          .stop) <|
        .stop) <|
      .alt ⟨(some 48), .load false 1, [.t 47], none⟩ (
        .alt ⟨(some 43), .load true 3, [.t 2], none⟩ (
          .alt ⟨(some 49), .call 47 [], [.t 43, .t 44, .t 48], none⟩ (
            .take ⟨(some 6), .mv, [.t 49], none⟩ <|
            .done) <|
          .stop) <|
        .stop) <|
      .stop)) <|
    .seq (.draw (
      .take ⟨(some 50), .mv, [.t 6], none⟩ <|
      .take ⟨(some 51), .bin .lss 0, [.t 50, .c (.v (.int .i64 (0)))], none⟩ <|
      .take ⟨(some 52), .mv, [.t 51], none⟩ <|
      .take ⟨(some 53), .fadr 2, [.t 2], (some (52, false))⟩ <|
      .take ⟨(some 55), .mv, [.t 6], (some (52, false))⟩ <|
      .alt ⟨(some 54), .load false 1, [.t 53], (some (52, false))⟩ (
        .take ⟨(some 56), .iadr 1, [.t 54, .t 55], (some (52, false))⟩ <|
        .alt ⟨(some 57), .load false 1, [.t 56], (some (52, false))⟩ (
          .take ⟨(some 58), .un .not, [.t 57], (some (52, false))⟩ <|
          .take ⟨(some 59), .pick, [.t 52, .c (.v (.bool true)), .t 58], none⟩ <|
          .take ⟨(some 60), .mv, [.t 59], none⟩ <|
          .take ⟨(some 61), .mv, [.t 1], (some (60, false))⟩ <|
          .take ⟨(some 62), .mv, [.t 6], (some (60, false))⟩ <|
          .take ⟨(some 63), .iadr 1, [.t 61, .t 62], (some (60, false))⟩ <|
          .take ⟨(some 65), .mv, [.t 1], (some (60, false))⟩ <|
          .take ⟨(some 66), .mv, [.t 5], (some (60, false))⟩ <|
          .take ⟨(some 67), .iadr 1, [.t 65, .t 66], (some (60, false))⟩ <|
          .alt ⟨(some 64), .load false 1, [.t 63], (some (60, false))⟩ (
            .alt ⟨(some 68), .load false 1, [.t 67], (some (60, false))⟩ (
              .alt ⟨(some 69), .call 66 [], [.t 68], (some (60, false))⟩ (
                .take ⟨(some 70), .bin .neq 0, [.t 64, .t 69], (some (60, false))⟩ <|
                .take ⟨(some 71), .pick, [.t 60, .c (.v (.bool true)), .t 70], none⟩ <|
                .done) <|
              .stop) <|
            .stop) <|
          .alt ⟨(some 68), .load false 1, [.t 67], (some (60, false))⟩ (
            .alt ⟨(some 64), .load false 1, [.t 63], (some (60, false))⟩ (
              .alt ⟨(some 69), .call 66 [], [.t 68], (some (60, false))⟩ (
                .take ⟨(some 70), .bin .neq 0, [.t 64, .t 69], (some (60, false))⟩ <|
                .take ⟨(some 71), .pick, [.t 60, .c (.v (.bool true)), .t 70], none⟩ <|
                .done) <|
              .stop) <|
            .alt ⟨(some 69), .call 66 [], [.t 68], (some (60, false))⟩ (
              .alt ⟨(some 64), .load false 1, [.t 63], (some (60, false))⟩ (
                .take ⟨(some 70), .bin .neq 0, [.t 64, .t 69], (some (60, false))⟩ <|
                .take ⟨(some 71), .pick, [.t 60, .c (.v (.bool true)), .t 70], none⟩ <|
                .done) <|
              .stop) <|
            .stop) <|
          .stop) <|
        .stop) <|
      .stop)) <|
    .cond (.t 71) (
      .seq (.reg [⟨(some 4), .mv, [.c (.v (.bool false))], none⟩]) <|
      .ret) (
      .skip))) <|
  .reg [⟨(some 22), .mv, [.t 5], none⟩,
    ⟨(some 23), .bin .add 0, [.t 22, .c (.v (.int .i64 (1)))], none⟩,
    ⟨(some 5), .mv, [.t 23], none⟩]

def c_spec_LaidOk : ACode :=
  .seq (.reg [⟨(some 2), .box, [.t 0], none⟩,
    ⟨(some 4), .mv, [.c (.v (.bool false))], none⟩]) <|
  .seq (.seq (.reg [⟨(some 7), .load true 3, [.t 2], none⟩,
    ⟨(some 8), .call 28 [], [.t 7], none⟩,
    ⟨(some 9), .un .not, [.t 8], none⟩,
    ⟨(some 10), .mv, [.t 9], none⟩,
    ⟨(some 11), .mv, [.t 1], (some (10, false))⟩,
    ⟨(some 12), .len false, [.t 11], (some (10, false))⟩,
    ⟨(some 13), .fadr 2, [.t 2], (some (10, false))⟩,
    ⟨(some 14), .load false 1, [.t 13], (some (10, false))⟩,
    ⟨(some 15), .len false, [.t 14], (some (10, false))⟩,
    ⟨(some 16), .bin .neq 0, [.t 12, .t 15], (some (10, false))⟩,
    ⟨(some 17), .pick, [.t 10, .c (.v (.bool true)), .t 16], none⟩]) <|
  .cond (.t 17) (
    .seq (.reg [⟨(some 4), .mv, [.c (.v (.bool false))], none⟩]) <|
    .ret) (
    .skip)) <|
  .seq (.seq (.reg [⟨(some 5), .mv, [.c (.v (.int .i64 (0)))], none⟩]) <|
  .block 0 (
    .loop [(1, 1)] [1, 2, 5] c_spec_LaidOk_L0)) <|
  .seq (.reg [⟨(some 4), .mv, [.c (.v (.bool true))], none⟩]) <|
  .ret

theorem k_spec_LaidOk : cFn Try.prog n_spec_LaidOk 72 [.t 4] c_spec_LaidOk := ⟨Try.f64, _, Try.func64, rfl, by kernel_rfl, by kernel_rfl, by kernel_rfl, by kernel_rfl⟩

-- 2 parameters, results [.t 4], 21 slots, modes [false, false]
@[simp] abbrev n_spec_PairOf : Nat := 77

def c_spec_PairOf : ACode :=
  .seq (.reg [⟨(some 4), .mv, [.c (.v (.int .i64 (0)))], none⟩]) <|
  .seq (.seq (.reg [⟨(some 5), .mv, [.t 0], none⟩,
    ⟨(some 6), .call 29 [], [.t 5, .c (.v (.int .i64 (0))), .c (.v (.int .i64 (6)))], none⟩,
    ⟨(some 7), .un .not, [.t 6], none⟩,
    ⟨(some 8), .mv, [.t 7], none⟩,
    ⟨(some 9), .mv, [.t 1], (some (8, false))⟩,
    ⟨(some 10), .call 29 [], [.t 9, .c (.v (.int .i64 (0))), .c (.v (.int .i64 (6)))], (some (8, false))⟩,
    ⟨(some 11), .un .not, [.t 10], (some (8, false))⟩,
    ⟨(some 12), .pick, [.t 8, .c (.v (.bool true)), .t 11], none⟩]) <|
  .cond (.t 12) (
    .seq (.reg [⟨(some 4), .mv, [.c (.v (.int .i64 (-1)))], none⟩]) <|
    .ret) (
    .skip)) <|
  .seq (.reg [⟨(some 13), .mv, [.t 0], none⟩,
    ⟨(some 14), .mv, [.t 1], none⟩,
    ⟨(some 15), .mnx true, [.t 13, .t 14], none⟩,
    ⟨(some 16), .bin .mul 0, [.c (.v (.int .i64 (7))), .t 15], none⟩,
    ⟨(some 17), .mv, [.t 0], none⟩,
    ⟨(some 18), .mv, [.t 1], none⟩,
    ⟨(some 19), .mnx false, [.t 17, .t 18], none⟩,
    ⟨(some 20), .bin .add 0, [.t 16, .t 19], none⟩,
    ⟨(some 4), .mv, [.t 20], none⟩]) <|
  .ret

theorem k_spec_PairOf : cFn Try.prog n_spec_PairOf 21 [.t 4] c_spec_PairOf := ⟨Try.f77, _, Try.func77, rfl, by kernel_rfl, by kernel_rfl, by kernel_rfl, by kernel_rfl⟩

-- 3 parameters, results [.t 6], 57 slots, modes [false, false, false]
@[simp] abbrev n_spec_PairsOf : Nat := 69
def c_spec_PairsOf_L0 : ACode :=
  .seq (.seq (.reg [⟨(some 10), .mv, [.t 8], none⟩,
    ⟨(some 11), .mv, [.t 2], none⟩,
    ⟨(some 12), .len false, [.t 11], none⟩,
    ⟨(some 13), .bin .lss 0, [.t 10, .t 12], none⟩,
    ⟨(some 14), .mv, [.t 13], none⟩,
    ⟨(some 15), .load true 3, [.t 3], (some (14, true))⟩,
    ⟨(some 16), .mv, [.t 1], (some (14, true))⟩,
    ⟨(some 17), .call 14 [], [.t 15, .t 16], (some (14, true))⟩,
    ⟨(some 18), .pick, [.t 14, .t 17, .c (.v (.bool false))], none⟩,
    ⟨(some 19), .mv, [.t 18], none⟩,
    ⟨(some 20), .load true 3, [.t 3], (some (19, true))⟩,
    ⟨(some 21), .mv, [.t 2], (some (19, true))⟩,
    ⟨(some 22), .call 64 [], [.t 20, .t 21], (some (19, true))⟩,
    ⟨(some 23), .pick, [.t 19, .t 22, .c (.v (.bool false))], none⟩]) <|
  .cond (.t 23) (
    .skip) (
    .exit 0)) <|
  .seq (.block 1 (
    .seq (.reg [⟨(some 26), .mv, [.t 2], none⟩,
      ⟨(some 27), .mv, [.t 8], none⟩,
      ⟨(some 28), .iadr 1, [.t 26, .t 27], none⟩,
      ⟨(some 29), .load false 1, [.t 28], none⟩,
      ⟨(some 30), .bin .eql 0, [.t 29, .c (.v (.int .i64 (1)))], none⟩,
      ⟨(some 31), .mv, [.t 30], none⟩,
      ⟨(some 32), .mv, [.t 2], (some (31, false))⟩,
      ⟨(some 33), .mv, [.t 8], (some (31, false))⟩,
      ⟨(some 34), .iadr 1, [.t 32, .t 33], (some (31, false))⟩,
      ⟨(some 35), .load false 1, [.t 34], (some (31, false))⟩,
      ⟨(some 36), .bin .eql 0, [.t 35, .c (.v (.int .i64 (2)))], (some (31, false))⟩,
      ⟨(some 37), .pick, [.t 31, .c (.v (.bool true)), .t 36], none⟩]) <|
    .cond (.t 37) (
      .draw (
        .take ⟨(some 38), .mv, [.t 7], none⟩ <|
        .take ⟨(some 39), .mv, [.t 1], none⟩ <|
        .take ⟨(some 40), .mv, [.t 8], none⟩ <|
        .take ⟨(some 41), .iadr 1, [.t 39, .t 40], none⟩ <|
        .take ⟨(some 43), .mv, [.t 1], none⟩ <|
        .take ⟨(some 45), .mv, [.t 8], none⟩ <|
        .take ⟨(some 46), .mv, [.t 2], none⟩ <|
        .take ⟨(some 47), .mv, [.t 8], none⟩ <|
        .take ⟨(some 48), .iadr 1, [.t 46, .t 47], none⟩ <|
        .alt ⟨(some 42), .load false 1, [.t 41], none⟩ (
          .alt ⟨(some 44), .load true 3, [.t 3], none⟩ (
            .alt ⟨(some 49), .load false 1, [.t 48], none⟩ (
              .alt ⟨(some 50), .call 47 [], [.t 44, .t 45, .t 49], none⟩ (
                .take ⟨(some 51), .iadr 1, [.t 43, .t 50], none⟩ <|
                .alt ⟨(some 52), .load false 1, [.t 51], none⟩ (
                  .alt ⟨(some 53), .call 77 [], [.t 42, .t 52], none⟩ (
                    .alt ⟨(some 54), .bsl 1, [.t 53], none⟩ (
                      .alt ⟨(some 55), .app 1 8 true, [.t 38, .t 54], none⟩ (
                        .take ⟨(some 7), .mv, [.t 55], none⟩ <|
                        .done) <|
                      .stop) <|
                    .stop) <|
                  .stop) <|
                .stop) <|
              .stop) <|
            .stop) <|
          .alt ⟨(some 49), .load false 1, [.t 48], none⟩ (
            .alt ⟨(some 44), .load true 3, [.t 3], none⟩ (
              .alt ⟨(some 50), .call 47 [], [.t 44, .t 45, .t 49], none⟩ (
                .take ⟨(some 51), .iadr 1, [.t 43, .t 50], none⟩ <|
                .alt ⟨(some 52), .load false 1, [.t 51], none⟩ (
                  .alt ⟨(some 53), .call 77 [], [.t 42, .t 52], none⟩ (
                    .alt ⟨(some 54), .bsl 1, [.t 53], none⟩ (
                      .alt ⟨(some 55), .app 1 8 true, [.t 38, .t 54], none⟩ (
                        .take ⟨(some 7), .mv, [.t 55], none⟩ <|
                        .done) <|
                      .stop) <|
                    .stop) <|
                  .stop) <|
                .stop) <|
              .stop) <|
            .stop) <|
          .stop) <|
        .alt ⟨(some 44), .load true 3, [.t 3], none⟩ (
          .alt ⟨(some 42), .load false 1, [.t 41], none⟩ (
            .alt ⟨(some 49), .load false 1, [.t 48], none⟩ (
              .alt ⟨(some 50), .call 47 [], [.t 44, .t 45, .t 49], none⟩ (
                .take ⟨(some 51), .iadr 1, [.t 43, .t 50], none⟩ <|
                .alt ⟨(some 52), .load false 1, [.t 51], none⟩ (
                  .alt ⟨(some 53), .call 77 [], [.t 42, .t 52], none⟩ (
                    .alt ⟨(some 54), .bsl 1, [.t 53], none⟩ (
                      .alt ⟨(some 55), .app 1 8 true, [.t 38, .t 54], none⟩ (
                        .take ⟨(some 7), .mv, [.t 55], none⟩ <|
                        .done) <|
                      .stop) <|
                    .stop) <|
                  .stop) <|
                .stop) <|
              .stop) <|
            .stop) <|
          .alt ⟨(some 49), .load false 1, [.t 48], none⟩ (
            .alt ⟨(some 42), .load false 1, [.t 41], none⟩ (
              .alt ⟨(some 50), .call 47 [], [.t 44, .t 45, .t 49], none⟩ (
                .take ⟨(some 51), .iadr 1, [.t 43, .t 50], none⟩ <|
                .alt ⟨(some 52), .load false 1, [.t 51], none⟩ (
                  .alt ⟨(some 53), .call 77 [], [.t 42, .t 52], none⟩ (
                    .alt ⟨(some 54), .bsl 1, [.t 53], none⟩ (
                      .alt ⟨(some 55), .app 1 8 true, [.t 38, .t 54], none⟩ (
                        .take ⟨(some 7), .mv, [.t 55], none⟩ <|
                        .done) <|
                      .stop) <|
                    .stop) <|
                  .stop) <|
                .stop) <|
              .stop) <|
            .alt ⟨(some 50), .call 47 [], [.t 44, .t 45, .t 49], none⟩ (
              .take ⟨(some 51), .iadr 1, [.t 43, .t 50], none⟩ <|
              .alt ⟨(some 42), .load false 1, [.t 41], none⟩ (
                .alt ⟨(some 52), .load false 1, [.t 51], none⟩ (
                  .alt ⟨(some 53), .call 77 [], [.t 42, .t 52], none⟩ (
                    .alt ⟨(some 54), .bsl 1, [.t 53], none⟩ (
                      .alt ⟨(some 55), .app 1 8 true, [.t 38, .t 54], none⟩ (
                        .take ⟨(some 7), .mv, [.t 55], none⟩ <|
                        .done) <|
                      .stop) <|
                    .stop) <|
                  .stop) <|
                .stop) <|
              .alt ⟨(some 52), .load false 1, [.t 51], none⟩ (
                .alt ⟨(some 42), .load false 1, [.t 41], none⟩ (
                  .alt ⟨(some 53), .call 77 [], [.t 42, .t 52], none⟩ (
                    .alt ⟨(some 54), .bsl 1, [.t 53], none⟩ (
                      .alt ⟨(some 55), .app 1 8 true, [.t 38, .t 54], none⟩ (
                        .take ⟨(some 7), .mv, [.t 55], none⟩ <|
                        .done) <|
                      .stop) <|
                    .stop) <|
                  .stop) <|
                .stop) <|
              .stop) <|
            .stop) <|
          .stop) <|
        .alt ⟨(some 49), .load false 1, [.t 48], none⟩ (
          .alt ⟨(some 42), .load false 1, [.t 41], none⟩ (
            .alt ⟨(some 44), .load true 3, [.t 3], none⟩ (
              .alt ⟨(some 50), .call 47 [], [.t 44, .t 45, .t 49], none⟩ (
                .take ⟨(some 51), .iadr 1, [.t 43, .t 50], none⟩ <|
                .alt ⟨(some 52), .load false 1, [.t 51], none⟩ (
                  .alt ⟨(some 53), .call 77 [], [.t 42, .t 52], none⟩ (
                    .alt ⟨(some 54), .bsl 1, [.t 53], none⟩ (
                      .alt ⟨(some 55), .app 1 8 true, [.t 38, .t 54], none⟩ (
                        .take ⟨(some 7), .mv, [.t 55], none⟩ <|
                        .done) <|
                      .stop) <|
                    .stop) <|
                  .stop) <|
                .stop) <|
              .stop) <|
            .stop) <|
          .alt ⟨(some 44), .load true 3, [.t 3], none⟩ (
            .alt ⟨(some 42), .load false 1, [.t 41], none⟩ (
              .alt ⟨(some 50), .call 47 [], [.t 44, .t 45, .t 49], none⟩ (
                .take ⟨(some 51), .iadr 1, [.t 43, .t 50], none⟩ <|
                .alt ⟨(some 52), .load false 1, [.t 51], none⟩ (
                  .alt ⟨(some 53), .call 77 [], [.t 42, .t 52], none⟩ (
                    .alt ⟨(some 54), .bsl 1, [.t 53], none⟩ (
                      .alt ⟨(some 55), .app 1 8 true, [.t 38, .t 54], none⟩ (
                        .take ⟨(some 7), .mv, [.t 55], none⟩ <|
                        .done) <|
                      .stop) <|
                    .stop) <|
                  .stop) <|
                .stop) <|
              .stop) <|
            .alt ⟨(some 50), .call 47 [], [.t 44, .t 45, .t 49], none⟩ (
              .take ⟨(some 51), .iadr 1, [.t 43, .t 50], none⟩ <|
              .alt ⟨(some 42), .load false 1, [.t 41], none⟩ (
                .alt ⟨(some 52), .load false 1, [.t 51], none⟩ (
                  .alt ⟨(some 53), .call 77 [], [.t 42, .t 52], none⟩ (
                    .alt ⟨(some 54), .bsl 1, [.t 53], none⟩ (
                      .alt ⟨(some 55), .app 1 8 true, [.t 38, .t 54], none⟩ (
                        .take ⟨(some 7), .mv, [.t 55], none⟩ <|
                        .done) <|
                      .stop) <|
                    .stop) <|
                  .stop) <|
                .stop) <|
              .alt ⟨(some 52), .load false 1, [.t 51], none⟩ (
                .alt ⟨(some 42), .load false 1, [.t 41], none⟩ (
                  .alt ⟨(some 53), .call 77 [], [.t 42, .t 52], none⟩ (
                    .alt ⟨(some 54), .bsl 1, [.t 53], none⟩ (
                      .alt ⟨(some 55), .app 1 8 true, [.t 38, .t 54], none⟩ (
                        .take ⟨(some 7), .mv, [.t 55], none⟩ <|
                        .done) <|
                      .stop) <|
                    .stop) <|
                  .stop) <|
                .stop) <|
              .stop) <|
            .stop) <|
          .stop) <|
        .stop)) (
      .skip))) <|
  .reg [⟨(some 24), .mv, [.t 8], none⟩,
    ⟨(some 25), .bin .add 0, [.t 24, .c (.v (.int .i64 (1)))], none⟩,
    ⟨(some 8), .mv, [.t 25], none⟩]

def c_spec_PairsOf : ACode :=
  .seq (.reg [⟨(some 3), .box, [.t 0], none⟩,
    ⟨(some 6), .mv, [.c (.os 1 [])], none⟩]) <|
  .seq (.reg [⟨(some 9), .bsl 1, [], none⟩,
    ⟨(some 7), .mv, [.t 9], none⟩]) <|
  .seq (.seq (.reg [⟨(some 8), .mv, [.c (.v (.int .i64 (0)))], none⟩]) <|
  .block 0 (
    .loop [(1, 1), (2, 1), (7, 1)] [1, 2, 3, 7, 8] c_spec_PairsOf_L0)) <|
  .seq (.reg [⟨(some 56), .mv, [.t 7], none⟩,
    ⟨(some 6), .mv, [.t 56], none⟩]) <|
  .ret

theorem k_spec_PairsOf : cFn Try.prog n_spec_PairsOf 57 [.t 6] c_spec_PairsOf := ⟨Try.f69, _, Try.func69, rfl, by kernel_rfl, by kernel_rfl, by kernel_rfl, by kernel_rfl⟩

-- 3 parameters, results [.t 6], 15 slots, modes [false, false, false]
@[simp] abbrev n_impl_in : Nat := 32

def c_impl_in : ACode :=
  .seq (.reg [⟨(some 6), .mv, [.c (.v (.bool false))], none⟩]) <|
  .seq (.reg [⟨(some 7), .mv, [.t 0], none⟩,
    ⟨(some 8), .mv, [.t 1], none⟩,
    ⟨(some 9), .bin .geq 0, [.t 7, .t 8], none⟩,
    ⟨(some 10), .mv, [.t 9], none⟩,
    ⟨(some 11), .mv, [.t 0], (some (10, true))⟩,
    ⟨(some 12), .mv, [.t 2], (some (10, true))⟩,
    ⟨(some 13), .bin .leq 0, [.t 11, .t 12], (some (10, true))⟩,
    ⟨(some 14), .pick, [.t 10, .t 13, .c (.v (.bool false))], none⟩,
    ⟨(some 6), .mv, [.t 14], none⟩]) <|
  .ret

theorem k_impl_in : cFn Try.prog n_impl_in 15 [.t 6] c_impl_in := ⟨Try.f32, _, Try.func32, rfl, by kernel_rfl, by kernel_rfl, by kernel_rfl, by kernel_rfl⟩

-- 1 parameters, results [.t 2], 17 slots, modes [false]
@[simp] abbrev n_impl_many : Nat := 20
def c_impl_many_L0 : ACode :=
  .seq (.reg [⟨(some 9), .bin .lss 0, [.t 8, .t 7], none⟩]) <|
  .seq (.cond (.t 9) (
    .skip) (
    .exit 0)) <|
  .seq (.block 1 (
    .seq (.reg [⟨(some 10), .iadr 1, [.t 6, .t 8], none⟩,
      ⟨(some 11), .load false 1, [.t 10], none⟩,
      ⟨(some 5), .mv, [.t 11], none⟩]) <|
    .seq (.reg [⟨(some 12), .mv, [.t 5], none⟩]) <|
    .cond (.t 12) (
      .reg [⟨(some 13), .mv, [.t 3], none⟩,
        ⟨(some 14), .bin .add 0, [.t 13, .c (.v (.int .i64 (1)))], none⟩,
        ⟨(some 3), .mv, [.t 14], none⟩]) (
      .skip))) <|
  .reg [⟨(some 15), .bin .add 0, [.t 8, .c (.v (.int .i64 (1)))], none⟩,
    ⟨(some 8), .mv, [.t 15], none⟩]

def c_impl_many : ACode :=
  .seq (.reg [⟨(some 2), .mv, [.c (.v (.int .i64 (0)))], none⟩]) <|
  .seq (.reg [⟨(some 3), .mv, [.c (.v (.int .i64 (0)))], none⟩]) <|
  .seq (.seq (.reg [⟨(some 6), .mv, [.t 0], none⟩,
    ⟨(some 7), .len false, [.t 6], none⟩,
    ⟨(some 8), .mv, [.c (.v (.int .i64 (0)))], none⟩]) <|
  .block 0 (
    .loop [(6, 1)] [3, 6, 7, 8] c_impl_many_L0)) <|
  .seq (.reg [⟨(some 16), .mv, [.t 3], none⟩,
    ⟨(some 2), .mv, [.t 16], none⟩]) <|
  .ret

theorem k_impl_many : cFn Try.prog n_impl_many 17 [.t 2] c_impl_many := ⟨Try.f20, _, Try.func20, rfl, by kernel_rfl, by kernel_rfl, by kernel_rfl, by kernel_rfl⟩

-- 1 parameters, results [.t 2], 28 slots, modes [false]
@[simp] abbrev n_impl_RegionValid : Nat := 18

def c_impl_RegionValid : ACode :=
  .seq (.reg [⟨(some 1), .box, [.t 0], none⟩,
    ⟨(some 2), .mv, [.c (.v (.bool false))], none⟩]) <|
  .seq (.reg [⟨(some 3), .fadr 0, [.t 1], none⟩,
    ⟨(some 4), .load false 1, [.t 3], none⟩,
    ⟨(some 5), .call 32 [], [.t 4, .c (.v (.int .i64 (1))), .c (.v (.int .i64 (6)))], none⟩,
    ⟨(some 6), .mv, [.t 5], none⟩,
    ⟨(some 7), .fadr 1, [.t 1], (some (6, true))⟩,
    ⟨(some 8), .load false 1, [.t 7], (some (6, true))⟩,
    ⟨(some 9), .call 32 [], [.t 8, .c (.v (.int .i64 (1))), .c (.v (.int .i64 (6)))], (some (6, true))⟩,
    ⟨(some 10), .pick, [.t 6, .t 9, .c (.v (.bool false))], none⟩,
    ⟨(some 11), .mv, [.t 10], none⟩,
    ⟨(some 12), .fadr 2, [.t 1], (some (11, true))⟩,
    ⟨(some 13), .load false 1, [.t 12], (some (11, true))⟩,
    ⟨(some 14), .len false, [.t 13], (some (11, true))⟩,
    ⟨(some 15), .fadr 0, [.t 1], (some (11, true))⟩,
    ⟨(some 16), .load false 1, [.t 15], (some (11, true))⟩,
    ⟨(some 17), .fadr 1, [.t 1], (some (11, true))⟩,
    ⟨(some 18), .load false 1, [.t 17], (some (11, true))⟩,
    ⟨(some 19), .bin .mul 0, [.t 16, .t 18], (some (11, true))⟩,
    ⟨(some 20), .bin .eql 0, [.t 14, .t 19], (some (11, true))⟩,
    ⟨(some 21), .pick, [.t 11, .t 20, .c (.v (.bool false))], none⟩,
    ⟨(some 22), .mv, [.t 21], none⟩,
    ⟨(some 23), .fadr 2, [.t 1], (some (22, true))⟩,
    ⟨(some 24), .load false 1, [.t 23], (some (22, true))⟩,
    ⟨(some 25), .call 20 [], [.t 24], (some (22, true))⟩,
    ⟨(some 26), .bin .leq 0, [.t 25, .c (.v (.int .i64 (24)))], (some (22, true))⟩,
    ⟨(some 27), .pick, [.t 22, .t 26, .c (.v (.bool false))], none⟩,
    ⟨(some 2), .mv, [.t 27], none⟩]) <|
  .ret

theorem k_impl_RegionValid : cFn Try.prog n_impl_RegionValid 28 [.t 2] c_impl_RegionValid := ⟨Try.f18, _, Try.func18, rfl, by kernel_rfl, by kernel_rfl, by kernel_rfl, by kernel_rfl⟩

-- 2 parameters, results [.t 4], 43 slots, modes [false, false]
@[simp] abbrev n_impl_puzzle : Nat := 27
def c_impl_puzzle_L0 : ACode :=
  .seq (.reg [⟨(some 16), .bin .lss 0, [.t 15, .t 14], none⟩]) <|
  .seq (.cond (.t 16) (
    .skip) (
    .exit 0)) <|
  .seq (.block 1 (
    .seq (.reg [⟨(some 17), .mv, [.t 15], none⟩,
      ⟨(some 18), .iadr 1, [.t 13, .t 15], none⟩,
      ⟨(some 19), .load false 1, [.t 18], none⟩,
      ⟨(some 5), .mv, [.t 17], none⟩,
      ⟨(some 6), .mv, [.t 19], none⟩]) <|
    .seq (.reg [⟨(some 20), .fadr 2, [.t 2], none⟩,
      ⟨(some 21), .load false 1, [.t 20], none⟩,
      ⟨(some 22), .mv, [.t 5], none⟩,
      ⟨(some 23), .iadr 1, [.t 21, .t 22], none⟩,
      ⟨(some 24), .load false 1, [.t 23], none⟩,
      ⟨(some 25), .mv, [.t 24], none⟩,
      ⟨(some 26), .mv, [.t 6], (some (25, true))⟩,
      ⟨(some 27), .call 32 [], [.t 26, .c (.v (.int .i64 (0))), .c (.v (.int .i64 (6)))], (some (25, true))⟩,
      ⟨(some 28), .un .not, [.t 27], (some (25, true))⟩,
      ⟨(some 29), .pick, [.t 25, .t 28, .c (.v (.bool false))], none⟩,
      ⟨(some 30), .mv, [.t 29], none⟩,
      ⟨(some 31), .fadr 2, [.t 2], (some (30, false))⟩,
      ⟨(some 32), .load false 1, [.t 31], (some (30, false))⟩,
      ⟨(some 33), .mv, [.t 5], (some (30, false))⟩,
      ⟨(some 34), .iadr 1, [.t 32, .t 33], (some (30, false))⟩,
      ⟨(some 35), .load false 1, [.t 34], (some (30, false))⟩,
      ⟨(some 36), .un .not, [.t 35], (some (30, false))⟩,
      ⟨(some 37), .mv, [.t 36], (some (30, false))⟩,
      ⟨(some 38), .mv, [.t 6], (some (37, true))⟩,
      ⟨(some 39), .bin .neq 0, [.t 38, .c (.v (.int .i64 (-1)))], (some (37, true))⟩,
      ⟨(some 40), .pick, [.t 37, .t 39, .c (.v (.bool false))], (some (30, false))⟩,
      ⟨(some 41), .pick, [.t 30, .c (.v (.bool true)), .t 40], none⟩]) <|
    .cond (.t 41) (
      .seq (.reg [⟨(some 4), .mv, [.c (.v (.bool false))], none⟩]) <|
      .ret) (
      .skip))) <|
  .reg [⟨(some 42), .bin .add 0, [.t 15, .c (.v (.int .i64 (1)))], none⟩,
    ⟨(some 15), .mv, [.t 42], none⟩]

def c_impl_puzzle : ACode :=
  .seq (.reg [⟨(some 2), .box, [.t 0], none⟩,
    ⟨(some 4), .mv, [.c (.v (.bool false))], none⟩]) <|
  .seq (.seq (.reg [⟨(some 7), .mv, [.t 1], none⟩,
    ⟨(some 8), .len false, [.t 7], none⟩,
    ⟨(some 9), .fadr 2, [.t 2], none⟩,
    ⟨(some 10), .load false 1, [.t 9], none⟩,
    ⟨(some 11), .len false, [.t 10], none⟩,
    ⟨(some 12), .bin .neq 0, [.t 8, .t 11], none⟩]) <|
  .cond (.t 12) (
    .seq (.reg [⟨(some 4), .mv, [.c (.v (.bool false))], none⟩]) <|
    .ret) (
    .skip)) <|
  .seq (.seq (.reg [⟨(some 13), .mv, [.t 1], none⟩,
    ⟨(some 14), .len false, [.t 13], none⟩,
    ⟨(some 15), .mv, [.c (.v (.int .i64 (0)))], none⟩]) <|
  .block 0 (
    .loop [(13, 1)] [2, 13, 14, 15] c_impl_puzzle_L0)) <|
  .seq (.reg [⟨(some 4), .mv, [.c (.v (.bool true))], none⟩]) <|
  .ret

theorem k_impl_puzzle : cFn Try.prog n_impl_puzzle 43 [.t 4] c_impl_puzzle := ⟨Try.f27, _, Try.func27, rfl, by kernel_rfl, by kernel_rfl, by kernel_rfl, by kernel_rfl⟩

-- 2 parameters, results [.t 4], 12 slots, modes [false, false]
@[simp] abbrev n_impl_PuzzleValid : Nat := 13

def c_impl_PuzzleValid : ACode :=
  .seq (.reg [⟨(some 2), .box, [.t 0], none⟩,
    ⟨(some 4), .mv, [.c (.v (.bool false))], none⟩]) <|
  .seq (.reg [⟨(some 5), .load true 3, [.t 2], none⟩,
    ⟨(some 6), .call 18 [], [.t 5], none⟩,
    ⟨(some 7), .mv, [.t 6], none⟩,
    ⟨(some 8), .load true 3, [.t 2], (some (7, true))⟩,
    ⟨(some 9), .mv, [.t 1], (some (7, true))⟩,
    ⟨(some 10), .call 27 [], [.t 8, .t 9], (some (7, true))⟩,
    ⟨(some 11), .pick, [.t 7, .t 10, .c (.v (.bool false))], none⟩,
    ⟨(some 4), .mv, [.t 11], none⟩]) <|
  .ret

theorem k_impl_PuzzleValid : cFn Try.prog n_impl_PuzzleValid 12 [.t 4] c_impl_PuzzleValid := ⟨Try.f13, _, Try.func13, rfl, by kernel_rfl, by kernel_rfl, by kernel_rfl, by kernel_rfl⟩

-- 2 parameters, results [.t 4, .t 5], 14 slots, modes [false, false]
@[simp] abbrev n_impl_Region_xy : Nat := 75

def c_impl_Region_xy : ACode :=
  .seq (.reg [⟨(some 2), .box, [.t 0], none⟩,
    ⟨(some 4), .mv, [.c (.v (.int .i64 (0)))], none⟩,
    ⟨(some 5), .mv, [.c (.v (.int .i64 (0)))], none⟩]) <|
  .seq (.draw (
    .take ⟨(some 6), .mv, [.t 1], none⟩ <|
    .take ⟨(some 7), .fadr 0, [.t 2], none⟩ <|
    .take ⟨(some 10), .mv, [.t 1], none⟩ <|
    .take ⟨(some 11), .fadr 0, [.t 2], none⟩ <|
    .alt ⟨(some 8), .load false 1, [.t 7], none⟩ (
      .take ⟨(some 9), .bin .rem 0, [.t 6, .t 8], none⟩ <|
      .take ⟨(some 4), .mv, [.t 9], none⟩ <|
      .alt ⟨(some 12), .load false 1, [.t 11], none⟩ (
        .take ⟨(some 13), .bin .quo 0, [.t 10, .t 12], none⟩ <|
        .take ⟨(some 5), .mv, [.t 13], none⟩ <|
        .done) <|
      .stop) <|
    .alt ⟨(some 12), .load false 1, [.t 11], none⟩ (
      .take ⟨(some 13), .bin .quo 0, [.t 10, .t 12], none⟩ <|
      .alt ⟨(some 8), .load false 1, [.t 7], none⟩ (
        .take ⟨(some 9), .bin .rem 0, [.t 6, .t 8], none⟩ <|
        .take ⟨(some 4), .mv, [.t 9], none⟩ <|
        .take ⟨(some 5), .mv, [.t 13], none⟩ <|
        .done) <|
      .stop) <|
    .stop)) <|
  .ret

theorem k_impl_Region_xy : cFn Try.prog n_impl_Region_xy 14 [.t 4, .t 5] c_impl_Region_xy := ⟨Try.f75, _, Try.func75, rfl, by kernel_rfl, by kernel_rfl, by kernel_rfl, by kernel_rfl⟩

-- 3 parameters, results [.t 6], 52 slots, modes [false, false, false]
@[simp] abbrev n_impl_Region_step : Nat := 60

def c_impl_Region_step : ACode :=
  .seq (.reg [⟨(some 3), .box, [.t 0], none⟩,
    ⟨(some 6), .mv, [.c (.v (.int .i64 (0)))], none⟩]) <|
  .seq (.reg [⟨(some 10), .load true 3, [.t 3], none⟩,
    ⟨(some 11), .mv, [.t 1], none⟩,
    ⟨(some 12), .call 75 [], [.t 10, .t 11], none⟩,
    ⟨(some 9), .mv, [.t 12], none⟩,
    ⟨(some 13), .extr 0, [.t 9], none⟩,
    ⟨(some 14), .extr 1, [.t 9], none⟩,
    ⟨(some 7), .mv, [.t 13], none⟩,
    ⟨(some 8), .mv, [.t 14], none⟩]) <|
  .seq (.seq (.reg [⟨(some 15), .mv, [.t 2], none⟩]) <|
  .block 0 (
    .seq (.reg [⟨(some 17), .bin .eql 0, [.t 15, .c (.v (.int .i64 (1)))], none⟩,
      ⟨(some 16), .mv, [.t 17], none⟩]) <|
    .cond (.t 16) (
      .reg [⟨(some 18), .mv, [.t 7], none⟩,
        ⟨(some 19), .bin .add 0, [.t 18, .c (.v (.int .i64 (1)))], none⟩,
        ⟨(some 7), .mv, [.t 19], none⟩]) (
      .seq (.reg [⟨(some 21), .bin .eql 0, [.t 15, .c (.v (.int .i64 (2)))], none⟩,
        ⟨(some 20), .mv, [.t 21], none⟩]) <|
      .cond (.t 20) (
        .reg [⟨(some 22), .mv, [.t 8], none⟩,
          ⟨(some 23), .bin .add 0, [.t 22, .c (.v (.int .i64 (1)))], none⟩,
          ⟨(some 8), .mv, [.t 23], none⟩]) (
        .seq (.reg [⟨(some 25), .bin .eql 0, [.t 15, .c (.v (.int .i64 (3)))], none⟩,
          ⟨(some 24), .mv, [.t 25], none⟩]) <|
        .cond (.t 24) (
          .reg [⟨(some 26), .mv, [.t 7], none⟩,
            ⟨(some 27), .bin .sub 0, [.t 26, .c (.v (.int .i64 (1)))], none⟩,
            ⟨(some 7), .mv, [.t 27], none⟩]) (
          .seq (.reg [⟨(some 29), .bin .eql 0, [.t 15, .c (.v (.int .i64 (4)))], none⟩,
            ⟨(some 28), .mv, [.t 29], none⟩]) <|
          .cond (.t 28) (
            .reg [⟨(some 30), .mv, [.t 8], none⟩,
              ⟨(some 31), .bin .sub 0, [.t 30, .c (.v (.int .i64 (1)))], none⟩,
              ⟨(some 8), .mv, [.t 31], none⟩]) (
            .seq (.reg [⟨(some 6), .mv, [.c (.v (.int .i64 (-1)))], none⟩]) <|
            .ret)))))) <|
  .seq (.seq (.reg [⟨(some 32), .mv, [.t 7], none⟩,
    ⟨(some 33), .fadr 0, [.t 3], none⟩,
    ⟨(some 34), .load false 1, [.t 33], none⟩,
    ⟨(some 35), .bin .sub 0, [.t 34, .c (.v (.int .i64 (1)))], none⟩,
    ⟨(some 36), .call 32 [], [.t 32, .c (.v (.int .i64 (0))), .t 35], none⟩,
    ⟨(some 37), .un .not, [.t 36], none⟩,
    ⟨(some 38), .mv, [.t 37], none⟩,
    ⟨(some 39), .mv, [.t 8], (some (38, false))⟩,
    ⟨(some 40), .fadr 1, [.t 3], (some (38, false))⟩,
    ⟨(some 41), .load false 1, [.t 40], (some (38, false))⟩,
    ⟨(some 42), .bin .sub 0, [.t 41, .c (.v (.int .i64 (1)))], (some (38, false))⟩,
    ⟨(some 43), .call 32 [], [.t 39, .c (.v (.int .i64 (0))), .t 42], (some (38, false))⟩,
    ⟨(some 44), .un .not, [.t 43], (some (38, false))⟩,
    ⟨(some 45), .pick, [.t 38, .c (.v (.bool true)), .t 44], none⟩]) <|
  .cond (.t 45) (
    .seq (.reg [⟨(some 6), .mv, [.c (.v (.int .i64 (-1)))], none⟩]) <|
    .ret) (
    .skip)) <|
  .seq (.reg [⟨(some 46), .mv, [.t 8], none⟩,
    ⟨(some 47), .fadr 0, [.t 3], none⟩,
    ⟨(some 48), .load false 1, [.t 47], none⟩,
    ⟨(some 49), .bin .mul 0, [.t 46, .t 48], none⟩,
    ⟨(some 50), .mv, [.t 7], none⟩,
    ⟨(some 51), .bin .add 0, [.t 49, .t 50], none⟩,
    ⟨(some 6), .mv, [.t 51], none⟩]) <|
  .ret

theorem k_impl_Region_step : cFn Try.prog n_impl_Region_step 52 [.t 6] c_impl_Region_step := ⟨Try.f60, _, Try.func60, rfl, by kernel_rfl, by kernel_rfl, by kernel_rfl, by kernel_rfl⟩

-- 1 parameters, results [.t 2], 7 slots, modes [false]
@[simp] abbrev n_impl_back : Nat := 71

def c_impl_back : ACode :=
  .seq (.reg [⟨(some 2), .mv, [.c (.v (.int .i64 (0)))], none⟩]) <|
  .seq (.reg [⟨(some 3), .mv, [.t 0], none⟩,
    ⟨(some 4), .bin .add 0, [.t 3, .c (.v (.int .i64 (1)))], none⟩,
    ⟨(some 5), .bin .rem 0, [.t 4, .c (.v (.int .i64 (4)))], none⟩,
    ⟨(some 6), .bin .add 0, [.t 5, .c (.v (.int .i64 (1)))], none⟩,
    ⟨(some 2), .mv, [.t 6], none⟩]) <|
  .ret

theorem k_impl_back : cFn Try.prog n_impl_back 7 [.t 2] c_impl_back := ⟨Try.f71, _, Try.func71, rfl, by kernel_rfl, by kernel_rfl, by kernel_rfl, by kernel_rfl⟩

-- 2 parameters, results [.t 4], 13 slots, modes [false, false]
@[simp] abbrev n_impl_pair : Nat := 72

def c_impl_pair : ACode :=
  .seq (.reg [⟨(some 4), .mv, [.c (.v (.int .i64 (0)))], none⟩]) <|
  .seq (.reg [⟨(some 5), .mv, [.t 0], none⟩,
    ⟨(some 6), .mv, [.t 1], none⟩,
    ⟨(some 7), .mnx true, [.t 5, .t 6], none⟩,
    ⟨(some 8), .bin .mul 0, [.c (.v (.int .i64 (7))), .t 7], none⟩,
    ⟨(some 9), .mv, [.t 0], none⟩,
    ⟨(some 10), .mv, [.t 1], none⟩,
    ⟨(some 11), .mnx false, [.t 9, .t 10], none⟩,
    ⟨(some 12), .bin .add 0, [.t 8, .t 11], none⟩,
    ⟨(some 4), .mv, [.t 12], none⟩]) <|
  .ret

theorem k_impl_pair : cFn Try.prog n_impl_pair 13 [.t 4] c_impl_pair := ⟨Try.f72, _, Try.func72, rfl, by kernel_rfl, by kernel_rfl, by kernel_rfl, by kernel_rfl⟩

-- 1 parameters, results [.t 2], 9 slots, modes [true]
@[simp] abbrev n_slices_Clip_int_int : Nat := 54

def c_slices_Clip_int_int : ACode :=
  .seq (.reg [⟨(some 2), .mv, [.c (.os 1 [])], none⟩]) <|
  .seq (.reg [⟨(some 3), .mv, [.t 0], none⟩,
    ⟨(some 4), .mv, [.t 0], none⟩,
    ⟨(some 5), .len false, [.t 4], none⟩,
    ⟨(some 6), .mv, [.t 0], none⟩,
    ⟨(some 7), .len false, [.t 6], none⟩,
    ⟨(some 8), .slice 1 false false true true, [.t 3, .t 5, .t 7], none⟩,
    ⟨(some 2), .mv, [.t 8], none⟩]) <|
  .ret

theorem k_slices_Clip_int_int : cFn Try.prog n_slices_Clip_int_int 9 [.t 2] c_slices_Clip_int_int := ⟨Try.f54, _, Try.func54, rfl, by kernel_rfl, by kernel_rfl, by kernel_rfl, by kernel_rfl⟩

-- 3 parameters, results [.t 6], 41 slots, modes [false, false, false]
@[simp] abbrev n_impl_Region_pairs : Nat := 56
def c_impl_Region_pairs_L0 : ACode :=
  .seq (.reg [⟨(some 13), .bin .lss 0, [.t 12, .t 11], none⟩]) <|
  .seq (.cond (.t 13) (
    .skip) (
    .exit 0)) <|
  .seq (.block 1 (
    .seq (.reg [⟨(some 14), .mv, [.t 12], none⟩,
      ⟨(some 15), .iadr 1, [.t 10, .t 12], none⟩,
      ⟨(some 16), .load false 1, [.t 15], none⟩,
      ⟨(some 8), .mv, [.t 14], none⟩,
      ⟨(some 9), .mv, [.t 16], none⟩]) <|
    .seq (.reg [⟨(some 17), .mv, [.t 9], none⟩,
      ⟨(some 18), .bin .eql 0, [.t 17, .c (.v (.int .i64 (1)))], none⟩,
      ⟨(some 19), .mv, [.t 18], none⟩,
      ⟨(some 20), .mv, [.t 9], (some (19, false))⟩,
      ⟨(some 21), .bin .eql 0, [.t 20, .c (.v (.int .i64 (2)))], (some (19, false))⟩,
      ⟨(some 22), .pick, [.t 19, .c (.v (.bool true)), .t 21], none⟩]) <|
    .cond (.t 22) (
      .draw (
        .take ⟨(some 23), .mv, [.t 7], none⟩ <|
        .take ⟨(some 24), .mv, [.t 1], none⟩ <|
        .take ⟨(some 25), .mv, [.t 8], none⟩ <|
        .take ⟨(some 26), .iadr 1, [.t 24, .t 25], none⟩ <|
        .take ⟨(some 28), .mv, [.t 1], none⟩ <|
        .take ⟨(some 30), .mv, [.t 8], none⟩ <|
        .take ⟨(some 31), .mv, [.t 9], none⟩ <|
        .alt ⟨(some 27), .load false 1, [.t 26], none⟩ (
          .alt ⟨(some 29), .load true 3, [.t 3], none⟩ (
            .alt ⟨(some 32), .call 60 [], [.t 29, .t 30, .t 31], none⟩ (
              .take ⟨(some 33), .iadr 1, [.t 28, .t 32], none⟩ <|
              .alt ⟨(some 34), .load false 1, [.t 33], none⟩ (
                .alt ⟨(some 35), .call 72 [], [.t 27, .t 34], none⟩ (
                  .alt ⟨(some 36), .bsl 1, [.t 35], none⟩ (
                    .alt ⟨(some 37), .app 1 8 true, [.t 23, .t 36], none⟩ (
                      .take ⟨(some 7), .mv, [.t 37], none⟩ <|
                      .done) <|
                    .stop) <|
                  .stop) <|
                .stop) <|
              .stop) <|
            .stop) <|
          .stop) <|
        .alt ⟨(some 29), .load true 3, [.t 3], none⟩ (
          .alt ⟨(some 27), .load false 1, [.t 26], none⟩ (
            .alt ⟨(some 32), .call 60 [], [.t 29, .t 30, .t 31], none⟩ (
              .take ⟨(some 33), .iadr 1, [.t 28, .t 32], none⟩ <|
              .alt ⟨(some 34), .load false 1, [.t 33], none⟩ (
                .alt ⟨(some 35), .call 72 [], [.t 27, .t 34], none⟩ (
                  .alt ⟨(some 36), .bsl 1, [.t 35], none⟩ (
                    .alt ⟨(some 37), .app 1 8 true, [.t 23, .t 36], none⟩ (
                      .take ⟨(some 7), .mv, [.t 37], none⟩ <|
                      .done) <|
                    .stop) <|
                  .stop) <|
                .stop) <|
              .stop) <|
            .stop) <|
          .alt ⟨(some 32), .call 60 [], [.t 29, .t 30, .t 31], none⟩ (
            .take ⟨(some 33), .iadr 1, [.t 28, .t 32], none⟩ <|
            .alt ⟨(some 27), .load false 1, [.t 26], none⟩ (
              .alt ⟨(some 34), .load false 1, [.t 33], none⟩ (
                .alt ⟨(some 35), .call 72 [], [.t 27, .t 34], none⟩ (
                  .alt ⟨(some 36), .bsl 1, [.t 35], none⟩ (
                    .alt ⟨(some 37), .app 1 8 true, [.t 23, .t 36], none⟩ (
                      .take ⟨(some 7), .mv, [.t 37], none⟩ <|
                      .done) <|
                    .stop) <|
                  .stop) <|
                .stop) <|
              .stop) <|
            .alt ⟨(some 34), .load false 1, [.t 33], none⟩ (
              .alt ⟨(some 27), .load false 1, [.t 26], none⟩ (
                .alt ⟨(some 35), .call 72 [], [.t 27, .t 34], none⟩ (
                  .alt ⟨(some 36), .bsl 1, [.t 35], none⟩ (
                    .alt ⟨(some 37), .app 1 8 true, [.t 23, .t 36], none⟩ (
                      .take ⟨(some 7), .mv, [.t 37], none⟩ <|
                      .done) <|
                    .stop) <|
                  .stop) <|
                .stop) <|
              .stop) <|
            .stop) <|
          .stop) <|
        .stop)) (
      .skip))) <|
  .reg [⟨(some 38), .bin .add 0, [.t 12, .c (.v (.int .i64 (1)))], none⟩,
    ⟨(some 12), .mv, [.t 38], none⟩]

def c_impl_Region_pairs : ACode :=
  .seq (.reg [⟨(some 3), .box, [.t 0], none⟩,
    ⟨(some 6), .mv, [.c (.os 1 [])], none⟩]) <|
  .seq (.reg [⟨(some 7), .mv, [.c (.os 1 [])], none⟩]) <|
  .seq (.seq (.reg [⟨(some 10), .mv, [.t 2], none⟩,
    ⟨(some 11), .len false, [.t 10], none⟩,
    ⟨(some 12), .mv, [.c (.v (.int .i64 (0)))], none⟩]) <|
  .block 0 (
    .loop [(1, 1), (7, 1), (10, 1)] [1, 3, 7, 10, 11, 12] c_impl_Region_pairs_L0)) <|
  .seq (.reg [⟨(some 39), .mv, [.t 7], none⟩,
    ⟨(some 40), .call 54 [], [.t 39], none⟩,
    ⟨(some 6), .mv, [.t 40], none⟩]) <|
  .ret

theorem k_impl_Region_pairs : cFn Try.prog n_impl_Region_pairs 41 [.t 6] c_impl_Region_pairs := ⟨Try.f56, _, Try.func56, rfl, by kernel_rfl, by kernel_rfl, by kernel_rfl, by kernel_rfl⟩

end Go.Proofs.Dev

namespace Go.Proofs.Dev
set_option linter.unusedSimpArgs false
set_option maxRecDepth 100000

@[simp] def md0 (f : Nat) : List Bool := if f = 999999 ∨ f = 999999 ∨ f = 999999 ∨ f = 999999 ∨ f = 999999 then [true, false] else if f = 54 ∨ f = 999999 ∨ f = 38 ∨ f = 57 ∨ f = 58 then [true] else []

theorem s_slices_Clip_int_int (xs : List Int) : SoundAt Try.prog n_slices_Clip_int_int [.os 1 (ints xs)] (.os 1 (ints xs)) [.bot] := by
  refine fn_ok (md := md0) (ms := [false]) k_slices_Clip_int_int (by simp) ?_
  simp [c_slices_Clip_int_int]

end Go.Proofs.Dev

namespace Go.Proofs.Dev
set_option linter.unusedSimpArgs false
set_option maxRecDepth 100000

theorem s_spec_l1In (x lo hi : Int) : SoundAt Try.prog n_spec_l1In [.v (.int .i64 x), .v (.int .i64 lo), .v (.int .i64 hi)] (.v (.bool (decide (lo ≤ x ∧ x ≤ hi)))) [.bot, .bot, .bot] := by
  refine fn_ok (md := md0) (ms := [false, false, false]) k_spec_l1In (by simp) ?_
  simp [c_spec_l1In]
  constructor
  · intro h; simp [h]
  · intro h; omega

theorem s_spec_l1Count (bs : List Bool) (hb : bs.length < 2 ^ 40) : SoundAt Try.prog n_spec_l1Count [.sl 1 1 (bools bs)] (.v (.int .i64 (manyOf bs))) [.bot] := by
  refine fn_ok (md := md0) (ms := [false]) k_spec_l1Count (by simp) ?_
  simp [c_spec_l1Count]
  refine loop_by (fun m E H => ∃ i : Nat, m = bs.length - i ∧ i ≤ bs.length ∧ H = [] ∧ E = [(0, .sl 1 1 (bools bs)), (3, .v (.int .i64 (manyOf (bs.take i)))), (4, .v (.int .i64 i))]) bs.length ⟨0, by simp [manyOf]⟩ ?_
  rintro J hJ m E H ⟨i, rfl, hi, rfl, rfl⟩
  simp [c_spec_l1Count_L0]
  refine ⟨fun h => ?_, fun h => ?_⟩
  · have e := manyOf_take bs i h
    have e3 := manyOf_le (bs.take i)
    rw [List.length_take] at e3
    simp [h]
    refine ⟨fun hb => ⟨by omega, by omega, _, by omega, hJ _ _ _ ⟨i + 1, rfl, h, rfl, ?_⟩⟩, fun hb => ⟨by omega, _, by omega, hJ _ _ _ ⟨i + 1, rfl, h, rfl, ?_⟩⟩⟩ <;> simp [e, hb]
  · have : i = bs.length := by omega
    subst this
    simp

theorem s_spec_RegionValid (W T : Int) (cs : List Bool) (hb : cs.length < 2 ^ 40) : SoundAt Try.prog n_spec_RegionValid [.agg [.v (.int .i64 W), .v (.int .i64 T), .sl 1 1 (bools cs)]] (.v (.bool (regB W T cs))) [.bot] := by
  refine fn_ok (md := md0) (ms := [false]) k_spec_RegionValid (by simp) ?_
  simp [c_spec_RegionValid]
  refine call_on (s_spec_l1In W 1 6) ?_
  simp
  refine ⟨fun h h' => ?_, fun h => ?_⟩
  · refine call_on (s_spec_l1In T 1 6) ?_
    have hx : T ≤ 6 → W * T ≤ 36 ∧ (1 ≤ T → 1 ≤ W * T) := fun ht => ⟨(by
      by_cases h0 : 0 ≤ T
      · exact Int.mul_le_mul h' ht h0 (by omega)
      · have : W * T ≤ 0 := Int.mul_nonpos_of_nonneg_of_nonpos (by omega) (by omega)
        omega), fun h1 => Int.mul_pos (by omega) (by omega)⟩
    simp
    refine ⟨fun h1 h2 => ⟨by have := hx h2; omega, fun h3 => ?_, fun h3 => ?_⟩, fun h1 => ?_⟩
    · refine call_on (s_spec_l1Count cs hb) ?_
      simp [regB, h, h', h1, h2, h3]
      omega
    · simp [regB]; omega
    · simp [regB]; omega
  · simp [regB]; omega

theorem s_spec_l2Back (n : Int) (h : 0 ≤ n) (h2 : n < 2 ^ 60) : SoundAt Try.prog n_spec_l2Back [.v (.int .i64 n)] (.v (.int .i64 (backI n))) [.bot] := by
  refine fn_ok (md := md0) (ms := [false]) k_spec_l2Back (by simp) ?_
  simp [c_spec_l2Back, backI]
  omega

theorem s_spec_PairOf (a b : Int) (h1 : 0 ≤ a ∧ a ≤ 6) (h2 : 0 ≤ b ∧ b ≤ 6) : SoundAt Try.prog n_spec_PairOf [.v (.int .i64 a), .v (.int .i64 b)] (.v (.int .i64 (pairI a b))) [.bot, .bot] := by
  refine fn_ok (md := md0) (ms := [false, false]) k_spec_PairOf (by simp) ?_
  simp [c_spec_PairOf]
  refine call_on (s_spec_l1In a 0 6) ?_
  simp [h1]
  refine call_on (s_spec_l1In b 0 6) ?_
  simp [h2, pairI]
  rw [Int.min_def, Int.max_def]
  (repeat' split) <;> omega

theorem s_spec_l2Step (W T : Int) (cs : List Bool) (k way : Int) (hr : regB W T cs = true) (h0 : 0 ≤ k) (h1 : k < cs.length) :
    SoundAt Try.prog n_spec_l2Step [.agg [.v (.int .i64 W), .v (.int .i64 T), .sl 1 1 (bools cs)], .v (.int .i64 k), .v (.int .i64 way)] (.v (.int .i64 (stepI W T k way))) [.bot, .bot, .bot] := by
  refine fn_ok (md := md0) (ms := [false, false, false]) k_spec_l2Step (by simp) ?_
  obtain ⟨w1, w2, t1, t2, l1, _⟩ := regB_W hr
  have hl := regB_len hr
  have hxy := cell_xy (T := T) (k := k) w1 h0 (by omega)
  have e1 : stepI W T k way = if way = 1 ∧ k % W < W - 1 then k + 1 else if way = 2 ∧ k / W < T - 1 then k + W else if way = 3 ∧ 0 < k % W then k - 1 else if way = 4 ∧ 0 < k / W then k - W else -1 := rfl
  rw [e1]
  clear e1 hr
  generalize hA : k % W = A at *
  generalize hB : k / W = B at *
  by_cases c1 : way = 1
  · subst c1; simp [c_spec_l2Step, hA, hB]; omega
  by_cases c2 : way = 2
  · subst c2; simp [c_spec_l2Step, hA, hB]; omega
  by_cases c3 : way = 3
  · subst c3; simp [c_spec_l2Step, hA, hB]; omega
  by_cases c4 : way = 4
  · subst c4; simp [c_spec_l2Step, hA, hB]; omega
  simp [c_spec_l2Step, c1, c2, c3, c4]

end Go.Proofs.Dev

namespace Go.Proofs.Dev
set_option linter.unusedSimpArgs false
set_option maxRecDepth 100000

theorem s_spec_PuzzleValid (W T : Int) (cs : List Bool) (ds : List Int) (hb : cs.length < 2 ^ 40) (hd : ds.length < 2 ^ 40) :
    SoundAt Try.prog n_spec_PuzzleValid [.agg [.v (.int .i64 W), .v (.int .i64 T), .sl 1 1 (bools cs)], .sl 1 1 (ints ds)] (.v (.bool (regB W T cs && digsB cs ds))) [.bot, .bot] := by
  refine fn_ok (md := md0) (ms := [false, false]) k_spec_PuzzleValid (by simp) ?_
  simp [c_spec_PuzzleValid]
  refine call_on (s_spec_RegionValid W T cs hb) ?_
  simp
  refine ⟨fun hr => ⟨fun hl => ?_, fun hl => ?_⟩, fun hr => ?_⟩
  · intro _
    simp [digsB]; omega
  · have hl' : ds.length = cs.length := by omega
    refine loop_by (fun m E H => ∃ i : Nat, m = ds.length - i ∧ i ≤ ds.length ∧ allB i (fun k => digAt cs ds k) = true ∧ H = [some (.box [.v (.int .i64 W), .v (.int .i64 T), .sl 1 1 (bools cs)])] ∧ E = [(1, .sl 1 1 (ints ds)), (2, .lp 0 0 0 0), (5, .v (.int .i64 i))]) ds.length ⟨0, by simp [allB_zero]⟩ ?_
    rintro J hJ m E H ⟨i, rfl, hi, ha, rfl, rfl⟩
    by_cases h : i < ds.length
    · have h2 : i < cs.length := by omega
      have next : digAt cs ds i = true → again J (ds.length - i) [(1, .sl 1 1 (ints ds)), (2, .lp 0 0 0 0), (5, .v (.int .i64 (i + 1)))] [some (.box [.v (.int .i64 W), .v (.int .i64 T), .sl 1 1 (bools cs)])] :=
        fun hd => ⟨_, by omega, hJ _ _ _ ⟨i + 1, rfl, h, by rw [allB_succ, ha, hd]; rfl, rfl, rfl⟩⟩
      have stop : digAt cs ds i = false → digsB cs ds = false := fun hd => by simp only [digsB, hl', decide_true, Bool.true_and]; exact allB_false h2 hd
      cases hc : atb cs i with
      | true =>
        simp [c_spec_PuzzleValid_L0, h, h2, hc]
        refine call_on (s_spec_l1In (ati ds i) 0 6) ?_
        simp [digAt, hc] at next stop ⊢
        (repeat' first | assumption | omega | apply And.intro | intro _) <;> first | omega | exact stop (by omega) | exact next (by omega) (by omega)
      | false =>
        simp [c_spec_PuzzleValid_L0, h, h2, hc]
        simp [digAt, hc] at next stop ⊢
        exact ⟨fun hx => fun _ => stop hx, fun hx => ⟨by omega, next hx⟩⟩
    · have : i = ds.length := by omega
      subst this
      simp [c_spec_PuzzleValid_L0]
      simp [digsB, hr, hl'] at ha ⊢
      exact ha
  · simp [hr]

end Go.Proofs.Dev

namespace Go.Proofs.Dev
set_option linter.unusedSimpArgs false
set_option maxRecDepth 100000

theorem s_spec_LaidOk (W T : Int) (cs : List Bool) (ls : List Int) (hb : cs.length < 2 ^ 40) (hd : ls.length < 2 ^ 40) :
    SoundAt Try.prog n_spec_LaidOk [.agg [.v (.int .i64 W), .v (.int .i64 T), .sl 1 1 (bools cs)], .sl 1 1 (ints ls)] (.v (.bool (regB W T cs && laysB W T cs ls))) [.bot, .bot] := by
  refine fn_ok (md := md0) (ms := [false, false]) k_spec_LaidOk (by simp) ?_
  simp [c_spec_LaidOk]
  refine call_on (s_spec_RegionValid W T cs hb) ?_
  simp
  refine ⟨fun hr => ⟨fun hl => ?_, fun hl => ?_⟩, fun hr => ?_⟩
  · intro _
    simp [laysB]; omega
  · have hl' : ls.length = cs.length := by omega
    obtain ⟨w1, w2, t1, t2, l1, _⟩ := regB_W hr
    refine loop_by (fun m E H => ∃ i : Nat, m = ls.length - i ∧ i ≤ ls.length ∧ allB i (fun k => layAt W T cs ls k) = true ∧ H = [some (.box [.v (.int .i64 W), .v (.int .i64 T), .sl 1 1 (bools cs)])] ∧ E = [(1, .sl 1 1 (ints ls)), (2, .lp 0 0 0 0), (5, .v (.int .i64 i))]) ls.length ⟨0, by simp [allB_zero]⟩ ?_
    rintro J hJ m E H ⟨i, rfl, hi, ha, rfl, rfl⟩
    by_cases h : i < ls.length
    · have h2 : i < cs.length := by omega
      have next : layAt W T cs ls i = true → again J (ls.length - i) [(1, .sl 1 1 (ints ls)), (2, .lp 0 0 0 0), (5, .v (.int .i64 (i + 1)))] [some (.box [.v (.int .i64 W), .v (.int .i64 T), .sl 1 1 (bools cs)])] :=
        fun hd => ⟨_, by omega, hJ _ _ _ ⟨i + 1, rfl, h, by rw [allB_succ, ha, hd]; rfl, rfl, rfl⟩⟩
      have stop : layAt W T cs ls i = false → (regB W T cs && laysB W T cs ls) = false := fun hd => by rw [hr, Bool.true_and]; simp only [laysB, hl', decide_true, Bool.true_and]; exact allB_false h2 hd
      by_cases z : ati ls i = 0
      · simp [c_spec_LaidOk_L0, h, h2, z]
        exact ⟨by omega, next (by simp [layAt, z])⟩
      by_cases rg : 1 ≤ ati ls i ∧ ati ls i ≤ 4
      case neg =>
        simp [c_spec_LaidOk_L0, h, h2, z]
        refine call_on (s_spec_l1In (ati ls i) 1 4) ?_
        have hs := stop (by simp [layAt, z]; omega)
        have hx : (decide (1 ≤ ati ls i) && decide (ati ls i ≤ 4)) = false := by simp; omega
        simp [hx, hs]
      cases hc : atb cs i with
      | false =>
        simp [c_spec_LaidOk_L0, h, h2, z]
        refine call_on (s_spec_l1In (ati ls i) 1 4) ?_
        have hs := stop (by simp [layAt, z, hc])
        simp [rg, hs, hc, h2]
      | true =>
        have hst := stepI_range (T := T) (k := i) (way := ati ls i) w1 (by omega) (by omega)
        have one : SoundAt Try.prog n_spec_l2Step [.agg [.v (.int .i64 W), .v (.int .i64 T), .sl 1 1 (bools cs)], .v (.int .i64 i), .v (.int .i64 (ati ls i))] (.v (.int .i64 (stepI W T i (ati ls i)))) [.bot, .bot, .bot] := s_spec_l2Step W T cs i (ati ls i) hr (by omega) (by omega)
        have two := s_spec_l2Back (ati ls i) (by omega) (by omega)
        simp [layAt, z, rg, hc] at next stop
        generalize hto : stepI W T i (ati ls i) = to at *
        simp [c_spec_LaidOk_L0, h, h2, z]
        refine call_on (s_spec_l1In (ati ls i) 1 4) ?_
        simp [rg, hc, h2]
        rcases hst with hst | ⟨hst, hst2, -, -⟩
        · subst hst
          have hs := stop (by omega) hr
          (repeat' first | assumption | omega | apply And.intro | intro _) <;> first
            | assumption
            | (refine call_on one ?_; simp [hs])
        · have e1 : ¬ to < 0 := by omega
          have e2 : to < cs.length := by omega
          have e3 : to < ls.length := by omega
          cases hct : atb cs to with
          | false =>
            have hs := stop (by simp [hct]) hr
            (repeat' first | assumption | omega | apply And.intro | intro _) <;> first
              | assumption
              | (refine call_on one ?_; simp [hs, e1, e2, e3, hst, hct])
          | true =>
            simp [hst, hct] at next stop
            (repeat' first | assumption | omega | apply And.intro | intro _) <;> first
              | assumption
              | (refine call_on one ?_
                 simp [e1, e2, e3, hst, hct, h]
                 (repeat' first | assumption | omega | apply And.intro | intro _) <;> first
                  | assumption
                  | (refine call_on two ?_
                     simp [e1, e2, e3, hst, hct, h]
                     (repeat' first | assumption | omega | apply And.intro | intro _) <;> first
                      | assumption
                      | omega
                      | exact next (by assumption)
                      | exact stop (by assumption) (by assumption)))
    · have : i = ls.length := by omega
      subst this
      simp [c_spec_LaidOk_L0]
      simp [laysB, hr, hl'] at ha ⊢
      exact ha
  · simp [hr]

end Go.Proofs.Dev
