/- Contracts of the functions of the program over slots and rows, each proved against the program itself; no condition beyond those that each theorem names. -/
import Derived.Test.YtfkmfobbgoflgaaGreatDoorAN
import Derived.Test.YtfkmfobbgoflgaaGreatDoorProg
import Derived.Test.YtfkmfobbgoflgaaGreatDoorAH

set_option linter.unusedSimpArgs false
set_option linter.unusedVariables false

namespace Go.Proofs.Dev
set_option linter.unusedSimpArgs false
set_option maxRecDepth 100000

def pastB (W T : Int) (cs : List Bool) (ds : List Int) (ps : List (List Int)) : Bool := allB ps.length (fun k => fairB W T cs ds (pti ps k))
def bookB (W T : Int) (cs : List Bool) (ds ls : List Int) (ps : List (List Int)) : Bool := (fairB W T cs ds ls && decide (ps.length ≤ 20)) && pastB W T cs ds ps

theorem s_spec_BookValid (W T : Int) (cs : List Bool) (ds ls : List Int) (ps : List (List Int)) (hc : cs.length < 2 ^ 40) (hd : ds.length < 2 ^ 40) (hl : ls.length < 2 ^ 40) (hb : ps.length < 2 ^ 40) (hp : ∀ p ∈ ps, p.length < 2 ^ 40) :
    SoundAt Tryz.prog n_spec_BookValid [bkA W T cs ds ls ps] (.v (.bool (bookB W T cs ds ls ps))) [.bot] := by
  refine fn_ok (md := md0) (ms := [false]) k_spec_BookValid (by simp) ?_
  simp [c_spec_BookValid]
  refine loop_by (fun m E H => ∃ i : Nat, m = ps.length - i ∧ i ≤ ps.length ∧ allB i (fun k => fairB W T cs ds (pti ps k)) = true ∧ H = [some (.box [.v (.int .i64 W), .v (.int .i64 T), .sl 1 1 (bools cs), .sl 1 1 (ints ds), .sl 1 1 (ints ls), .sl 1 1 (sls 1 ps)])] ∧ E = [(1, .lp 0 0 0 0), (3, .v (.int .i64 i))]) ps.length ⟨0, by simp [allB_zero]⟩ ?_
  rintro J hJ m E H ⟨i, rfl, hi, ha, rfl, rfl⟩
  by_cases h : i < ps.length
  case neg =>
    have : i = ps.length := by omega
    subst this
    simp [c_spec_BookValid_L0]
    refine call_on (s_spec_FairOk W T cs ds ls hc hd hl) ?_
    simp [bookB, pastB, ha]
    cases fairB W T cs ds ls <;> simp
    omega
  have one := s_spec_FairOk W T cs ds (pti ps i) hc hd (hp _ (pti_mem h))
  have hno : fairB W T cs ds (pti ps i) = false → bookB W T cs ds ls ps = false := by
    intro hf
    have : pastB W T cs ds ps = false := allB_false h hf
    simp [bookB, this]
  simp [c_spec_BookValid_L0, h]
  (repeat' first | assumption | omega | apply And.intro) <;>
  · refine call_on one ?_
    cases hf : fairB W T cs ds (pti ps i) with
    | false => simp [hno hf]
    | true =>
      simp
      exact ⟨by omega, _, by omega, hJ _ _ _ ⟨i + 1, rfl, h, by rw [allB_succ, ha, hf]; rfl, rfl, rfl⟩⟩

/-- A book that a closure reads. -/
@[simp] def bkP (W T : Int) (cs : List Bool) (ds ls : List Int) (ps : List (List Int)) : AV := .vp 1 [.v (.int .i64 W), .v (.int .i64 T), .sl 1 1 (bools cs), .sl 1 1 (ints ds), .sl 1 1 (ints ls), .sl 1 1 (sls 1 ps)] 0
end Go.Proofs.Dev

namespace Go.Proofs.Dev
set_option linter.unusedSimpArgs false
set_option maxRecDepth 100000

end Go.Proofs.Dev

namespace Go.Proofs.Dev

-- 1 parameters, results [.t 2], 9 slots, modes [false]
@[simp] abbrev n_spec_CellsMany : Nat := 147

def c_spec_CellsMany : ACode := .seq (.reg [.o 1 .box [.t 0], .o 2 .mv [.k 0]]) <| .seq (.seq (.reg [.la 3 3 1, .o 4 (.call 168 []) [.t 3],
 .o 5 (.un .not) [.t 4]]) <| .cond (.t 5) ( .seq (.reg [.o 2 .mv [.k (-1)]]) <| .ret) ( .skip)) <| .seq (.reg [.f 6 2 1, .l 7 6, .o 8 (.call 203 []) [.t 7],
 .m 2 8]) <| .ret

theorem k_spec_CellsMany : cFn Tryz.prog n_spec_CellsMany 9 [.t 2] c_spec_CellsMany := ⟨Tryz.f147, _, Tryz.func147, rfl, by kernel_rfl, by kernel_rfl, by kernel_rfl, by kernel_rfl⟩

-- 2 parameters, results [.t 4], 32 slots, modes [false, false]
@[simp] abbrev n_spec_LaidMany : Nat := 144
def c_spec_LaidMany_L0 : ACode := .seq (.seq (.reg [.m 11 6, .m 12 1, .n 13 12, .o 14 (.bin .lss 0) [.t 11, .t 13]]) <| .cond (.t 14) ( .skip) ( .exit 0)) <|
 .seq (.block 1 ( .seq (.reg [.m 17 1, .m 18 6, .o 19 (.iadr 1) [.t 17, .t 18], .l 20 19, .o 21 (.bin .eql 0) [.t 20, .k 1], .m 22 21, .mg 23 1 22 false,
 .mg 24 6 22 false, .g 25 (.iadr 1) [.t 23, .t 24] 22 false, .lg 26 25 22 false, .g 27 (.bin .eql 0) [.t 26, .k 2] 22 false, .o 28 .pick [.t 22, .kb true,
 .t 27]]) <| .cond (.t 28) ( .reg [.m 29 5, .o 30 (.bin .add 0) [.t 29, .k 1], .m 5 30]) ( .skip))) <| .reg [.m 15 6, .o 16 (.bin .add 0) [.t 15, .k 1],
 .m 6 16]

def c_spec_LaidMany : ACode := .seq (.reg [.o 2 .box [.t 0], .o 4 .mv [.k 0]]) <| .seq (.seq (.reg [.la 7 3 2, .m 8 1, .o 9 (.call 122 []) [.t 7, .t 8],
 .o 10 (.un .not) [.t 9]]) <| .cond (.t 10) ( .seq (.reg [.o 4 .mv [.k (-1)]]) <| .ret) ( .skip)) <| .seq (.reg [.o 5 .mv [.k 0]]) <|
 .seq (.seq (.reg [.o 6 .mv [.k 0]]) <| .block 0 ( .loop [(1, 1)] [1, 5, 6] c_spec_LaidMany_L0)) <| .seq (.reg [.m 31 5, .m 4 31]) <| .ret

theorem k_spec_LaidMany : cFn Tryz.prog n_spec_LaidMany 32 [.t 4] c_spec_LaidMany := ⟨Tryz.f144, _, Tryz.func144, rfl, by kernel_rfl, by kernel_rfl, by kernel_rfl, by kernel_rfl⟩

end Go.Proofs.Dev

namespace Go.Proofs.Dev
set_option linter.unusedSimpArgs false
set_option maxRecDepth 100000

/-- How many dominoes begin in a list. -/
def isDom (x : Int) : Bool := decide (x = 1) || decide (x = 2)
def domN (ls : List Int) : Nat := ls.countP isDom
theorem domN_succ {ls : List Int} {i : Nat} (h : i < ls.length) : domN (ls.take (i + 1)) = domN (ls.take i) + (if isDom (ati ls i) then 1 else 0) := by
  have e : ati ls i = ls[i] := by simp [ati, h]
  rw [e, List.take_succ_eq_append_getElem h, domN, List.countP_append, List.countP_singleton]
  rfl
theorem domN_le (ls : List Int) : domN ls ≤ ls.length := List.countP_le_length

theorem s_spec_CellsMany (W T : Int) (cs : List Bool) (hb : cs.length < 2 ^ 40) :
    SoundAt Tryz.prog n_spec_CellsMany [.agg [.v (.int .i64 W), .v (.int .i64 T), .sl 1 1 (bools cs)]] (.v (.int .i64 (if regB W T cs then manyOf cs else -1))) [.bot] := by
  refine fn_ok (md := md0) (ms := [false]) k_spec_CellsMany (by simp) ?_
  simp [c_spec_CellsMany]
  refine call_on (s_spec_RegionValid W T cs hb) ?_
  cases hr : regB W T cs with
  | false => simp
  | true =>
  simp
  refine call_on (s_spec_l1Count cs hb) ?_
  simp

theorem s_spec_LaidMany (W T : Int) (cs : List Bool) (ls : List Int) (hb : cs.length < 2 ^ 40) (hl : ls.length < 2 ^ 40) :
    SoundAt Tryz.prog n_spec_LaidMany [.agg [.v (.int .i64 W), .v (.int .i64 T), .sl 1 1 (bools cs)], .sl 1 1 (ints ls)] (.v (.int .i64 (if regB W T cs && laysB W T cs ls then (domN ls : Int) else -1))) [.bot, .bot] := by
  refine fn_ok (md := md0) (ms := [false, false]) k_spec_LaidMany (by simp) ?_
  simp [c_spec_LaidMany]
  refine call_on (s_spec_LaidOk W T cs ls hb hl) ?_
  cases hr : (regB W T cs && laysB W T cs ls) with
  | false =>
    have : ¬ (regB W T cs = true ∧ laysB W T cs ls = true) := by simpa using hr
    simp [this]
  | true =>
  have : regB W T cs = true ∧ laysB W T cs ls = true := by simpa using hr
  simp [this]
  refine loop_by (fun m E H => ∃ i : Nat, m = ls.length - i ∧ i ≤ ls.length ∧ H = [] ∧ E = [(1, .sl 1 1 (ints ls)), (5, .v (.int .i64 (domN (ls.take i)))), (6, .v (.int .i64 i))]) ls.length ⟨0, by simp [domN]⟩ ?_
  rintro J hJ m E H ⟨i, rfl, hi, rfl, rfl⟩
  by_cases h : i < ls.length
  case neg =>
    have : i = ls.length := by omega
    subst this
    simp [c_spec_LaidMany_L0]
  have hs := domN_succ h
  have hle : domN (ls.take i) ≤ i := by have := domN_le (ls.take i); simp at this; omega
  have next : ∀ v : Int, v = domN (ls.take (i + 1)) → again J (ls.length - i) [(1, .sl 1 1 (ints ls)), (5, .v (.int .i64 v)), (6, .v (.int .i64 (i + 1)))] [] := by
    rintro v rfl
    exact ⟨_, by omega, hJ _ _ _ ⟨i + 1, rfl, h, rfl, rfl⟩⟩
  by_cases e1 : ati ls i = 1
  · simp [isDom, e1] at hs
    simp [c_spec_LaidMany_L0, h, e1]
    exact ⟨by omega, by omega, next _ (by omega)⟩
  by_cases e2 : ati ls i = 2
  · simp [isDom, e2] at hs
    simp [c_spec_LaidMany_L0, h, e1, e2]
    exact ⟨by omega, by omega, next _ (by omega)⟩
  · simp [isDom, e1, e2] at hs
    simp [c_spec_LaidMany_L0, h, e1, e2]
    exact ⟨by omega, next _ (by omega)⟩

end Go.Proofs.Dev

namespace Go.Proofs.Dev
set_option linter.unusedSimpArgs false
set_option maxRecDepth 100000

end Go.Proofs.Dev

namespace Go.Proofs.Dev

-- 2 parameters, results [.t 4], 25 slots, modes [false, false]
@[simp] abbrev n_spec_l2First : Nat := 222
def c_spec_l2First_L0 : ACode := .seq (.seq (.reg [.m 6 5, .m 7 1, .n 8 7, .o 9 (.bin .lss 0) [.t 6, .t 8]]) <| .cond (.t 9) ( .skip) ( .exit 0)) <|
 .seq (.block 1 ( .seq (.reg [.f 12 2 2, .l 13 12, .m 14 5, .o 15 (.iadr 1) [.t 13, .t 14], .l 16 15, .m 17 16, .mg 18 1 17 true, .mg 19 5 17 true,
 .g 20 (.iadr 1) [.t 18, .t 19] 17 true, .lg 21 20 17 true, .g 22 (.bin .eql 0) [.t 21, .k 0] 17 true, .o 23 .pick [.t 17, .t 22, .kb false]]) <|
 .cond (.t 23) ( .seq (.reg [.m 24 5, .m 4 24]) <| .ret) ( .skip))) <| .reg [.m 10 5, .o 11 (.bin .add 0) [.t 10, .k 1], .m 5 11]

def c_spec_l2First : ACode := .seq (.reg [.o 2 .box [.t 0], .o 4 .mv [.k 0]]) <| .seq (.seq (.reg [.o 5 .mv [.k 0]]) <| .block 0 ( .loop [(1, 1)] [1, 2,
 5] c_spec_l2First_L0)) <| .seq (.reg [.o 4 .mv [.k (-1)]]) <| .ret

theorem k_spec_l2First : cFn Tryz.prog n_spec_l2First 25 [.t 4] c_spec_l2First := ⟨Tryz.f222, _, Tryz.func222, rfl, by kernel_rfl, by kernel_rfl, by kernel_rfl, by kernel_rfl⟩

-- 1 parameters, results [.t 2], 11 slots, modes [false]
@[simp] abbrev n_spec_LaidBare : Nat := 146

def c_spec_LaidBare : ACode := .seq (.reg [.o 1 .box [.t 0], .o 2 .mv [.c (.os 1 [])]]) <| .seq (.seq (.reg [.la 3 3 1, .o 4 (.call 168 []) [.t 3],
 .o 5 (.un .not) [.t 4]]) <| .cond (.t 5) ( .seq (.reg [.o 6 (.bsl 1) [], .m 2 6]) <| .ret) ( .skip)) <| .seq (.reg [.f 7 2 1, .l 8 7, .n 9 8,
 .o 10 (.mksl 1 8 (.v (.int .i64 (0)))) [.t 9, .t 9], .m 2 10]) <| .ret

theorem k_spec_LaidBare : cFn Tryz.prog n_spec_LaidBare 11 [.t 2] c_spec_LaidBare := ⟨Tryz.f146, _, Tryz.func146, rfl, by kernel_rfl, by kernel_rfl, by kernel_rfl, by kernel_rfl⟩

end Go.Proofs.Dev

namespace Go.Proofs.Dev
set_option linter.unusedSimpArgs false
set_option maxRecDepth 100000

/-- Who takes ownership: 139 of its second argument. -/
@[simp] def md1 (f : Nat) : List Bool := if f = 274 then [false, true] else md0 f

def bareB (cs : List Bool) (ls : List Int) (k : Nat) : Bool := atb cs k && decide (ati ls k = 0)
def bareI (cs : List Bool) (ls : List Int) : Int := firstI (bareB cs ls) ls.length
/-- All tilings that have the dominoes of a list. -/
def allT (W T : Int) (cs : List Bool) : Nat → List Int → List (List Int)
  | 0, ls => [ls]
  | n + 1, ls => if bareI cs ls < 0 then [ls] else
      (if freeB W T cs ls (bareI cs ls) 1 then allT W T cs n (layI W T ls (bareI cs ls) 1) else []) ++
      (if freeB W T cs ls (bareI cs ls) 2 then allT W T cs n (layI W T ls (bareI cs ls) 2) else [])

theorem bare_cases (cs : List Bool) (ls : List Int) : bareI cs ls = -1 ∨ ∃ k : Nat, k < ls.length ∧ bareI cs ls = k ∧ atb cs k = true ∧ ati ls k = 0 := by
  rcases firstI_cases (bareB cs ls) ls.length with h | ⟨k, hk, hp, he⟩
  · left; exact h
  · right
    simp only [bareB, Bool.and_eq_true, decide_eq_true_eq] at hp
    exact ⟨k, hk, he, hp.1, hp.2⟩

theorem lay_zeros {W T : Int} {ls : List Int} {k : Nat} {way : Int} (hk : k < ls.length) (hz : ati ls k = 0) (h1 : 1 ≤ way) (h4 : way ≤ 4) : zeros (layI W T ls k way) < zeros ls := by
  have hb : backI way ≠ 0 := by
    have := (backI_back h1 h4).2
    omega
  refine Nat.lt_of_le_of_lt (zeros_set_le hb) ?_
  exact zeros_set_lt (by simpa using hk) (by simpa using hz) (by omega)

theorem s_spec_l2First (W T : Int) (cs : List Bool) (ls : List Int) (hl : ls.length = cs.length) (hb : cs.length < 2 ^ 40) :
    SoundAt Tryz.prog n_spec_l2First [.agg [.v (.int .i64 W), .v (.int .i64 T), .sl 1 1 (bools cs)], .sl 1 1 (ints ls)] (.v (.int .i64 (bareI cs ls))) [.bot, .bot] := by
  refine fn_ok (md := md0) (ms := [false, false]) k_spec_l2First (by simp) ?_
  simp [c_spec_l2First]
  refine loop_by (fun m E H => ∃ i : Nat, m = ls.length - i ∧ i ≤ ls.length ∧ (∀ j : Nat, j < i → bareB cs ls j = false) ∧ H = [some (.box [.v (.int .i64 W), .v (.int .i64 T), .sl 1 1 (bools cs)])] ∧
    E = [(1, .sl 1 1 (ints ls)), (2, .lp 0 0 0 0), (5, .v (.int .i64 i))]) ls.length ⟨0, by simp⟩ ?_
  rintro J hJ m E H ⟨i, rfl, hi, ha, rfl, rfl⟩
  by_cases h : i < ls.length
  case neg =>
    have : i = ls.length := by omega
    subst this
    have e : bareI cs ls = -1 := firstI_none ha
    simp [c_spec_l2First_L0, e]
  have next : bareB cs ls i = false → again J (ls.length - i) [(1, .sl 1 1 (ints ls)), (2, .lp 0 0 0 0), (5, .v (.int .i64 (i + 1)))]
      [some (.box [.v (.int .i64 W), .v (.int .i64 T), .sl 1 1 (bools cs)])] := by
    intro hx
    refine ⟨_, by omega, hJ _ _ _ ⟨i + 1, rfl, h, ?_, rfl, rfl⟩⟩
    intro j hj
    rcases Nat.lt_or_ge j i with h1 | h1
    · exact ha j h1
    · have : j = i := by omega
      subst this; exact hx
  have h2 : i < cs.length := by omega
  cases hc : atb cs i with
  | false =>
    simp [c_spec_l2First_L0, h, h2, hc]
    exact ⟨by omega, next (by simp [bareB, hc])⟩
  | true =>
  by_cases z : ati ls i = 0
  · have e : bareI cs ls = i := firstI_hit h (by simp [bareB, hc, z]) ha
    simp [c_spec_l2First_L0, h, h2, hc, z, e]
  · simp [c_spec_l2First_L0, h, h2, hc, z]
    exact ⟨by omega, next (by simp [bareB, z])⟩

theorem zeros_pos {ls : List Int} {k : Nat} (h : k < ls.length) (hz : ati ls k = 0) : 0 < zeros ls := by
  have := zeros_set_lt (v := 1) h hz (by omega)
  omega

end Go.Proofs.Dev

namespace Go.Proofs.Dev
set_option linter.unusedSimpArgs false
set_option maxRecDepth 100000

def noneL (cs : List Bool) : List Int := List.replicate cs.length 0
theorem ati_none (cs : List Bool) (k : Int) : ati (noneL cs) k = 0 := by
  unfold ati noneL
  rw [List.getD_eq_getElem?_getD, List.getElem?_replicate]
  split <;> rfl
theorem lays_none (W T : Int) (cs : List Bool) : laysB W T cs (noneL cs) = true := by
  simp only [laysB, Bool.and_eq_true, decide_eq_true_eq, allB_iff]
  refine ⟨by simp [noneL], fun k _ => ?_⟩
  simp only [layAt, decide_eq_true_eq]
  exact .inl (ati_none cs k)

theorem s_spec_LaidBare (W T : Int) (cs : List Bool) (hb : cs.length < 2 ^ 40) :
    SoundAt Tryz.prog n_spec_LaidBare [.agg [.v (.int .i64 W), .v (.int .i64 T), .sl 1 1 (bools cs)]] (.os 1 (ints (if regB W T cs then noneL cs else []))) [.bot] := by
  refine fn_ok (md := md0) (ms := [false]) k_spec_LaidBare (by simp) ?_
  simp [c_spec_LaidBare]
  refine call_on (s_spec_RegionValid W T cs hb) ?_
  cases hr : regB W T cs with
  | false => simp
  | true =>
  simp [noneL, ints_rep]
  exact ⟨by omega, List.take_of_length_le (by simp)⟩

end Go.Proofs.Dev

namespace Go.Proofs.Dev
set_option linter.unusedSimpArgs false

theorem firstI_neg {p : Nat → Bool} {n : Nat} (h : firstI p n < 0) : ∀ j, j < n → p j = false := by
  intro j hj
  cases hx : p j with
  | false => rfl
  | true =>
    exfalso
    have hm : ∃ x ∈ List.range n, p x = true := ⟨j, by simpa using hj, hx⟩
    have hs := List.find?_isSome.2 hm
    unfold firstI at h
    split at h
    · omega
    · rename_i h9; rw [h9] at hs; cases hs

end Go.Proofs.Dev

namespace Go.Proofs.Dev
set_option linter.unusedSimpArgs false

/-- A list has all dominoes of another. -/
def hasB (ls p : List Int) : Bool := allB ls.length fun k => decide (ati ls k = 0) || decide (ati p k = ati ls k)

theorem hasB_iff {ls p : List Int} : hasB ls p = true ↔ ∀ k : Nat, k < ls.length → ati ls k = 0 ∨ ati p k = ati ls k := by
  simp only [hasB, allB_iff, Bool.or_eq_true, decide_eq_true_eq]

theorem hasB_refl (ls : List Int) : hasB ls ls = true := hasB_iff.2 fun _ _ => .inr rfl

theorem firstI_min {p : Nat → Bool} {n k : Nat} (h : firstI p n = k) : ∀ j, j < k → p j = false := by
  intro j hj
  unfold firstI at h
  split at h
  · rename_i k' hk
    rw [List.find?_range_eq_some] at hk
    have : k' = k := by omega
    subst this
    have := hk.2.2 j hj
    simpa using this
  · omega

theorem ati_lay {W T : Int} {ls : List Int} {cell way : Int} (hc : cell.toNat < ls.length) (hto : (stepI W T cell way).toNat < ls.length) (j : Nat) :
    ati (layI W T ls cell way) j = if j = (stepI W T cell way).toNat then backI way else if j = cell.toNat then way else ati ls j := by
  unfold layI
  rw [ati_set (by simpa using hto), ati_set hc]

theorem free_facts {W T : Int} {cs : List Bool} {ls : List Int} {k : Nat} {way : Int} (hr : regB W T cs = true) (hl : ls.length = cs.length) (hf : freeB W T cs ls k way = true) :
    ∃ t : Nat, stepI W T k way = t ∧ t < ls.length ∧ k < ls.length ∧ t ≠ k ∧ 1 ≤ way ∧ way ≤ 4 ∧ stepI W T t (backI way) = k ∧ atb cs t = true ∧ ati ls k = 0 ∧ ati ls t = 0 ∧
      ∀ j : Nat, ati (layI W T ls k way) j = if j = t then backI way else if j = k then way else ati ls j := by
  obtain ⟨w1, w2, t1, t2, l1, _⟩ := regB_W hr
  simp only [freeB, decide_eq_true_eq] at hf
  obtain ⟨f0, f1, f2, f3, f4, f5, f6⟩ := hf
  obtain ⟨b1, b2, b3, b4, b5⟩ := step_back (T := T) w1 f0 (by omega) f2
  have e : stepI W T k way = ((stepI W T k way).toNat : Nat) := by omega
  refine ⟨(stepI W T k way).toNat, e, by omega, by omega, by omega, b2, b3, by rw [← e]; exact b1, by rw [← e]; exact f4, f5, by rw [← e]; exact f6, ?_⟩
  intro j
  rw [ati_lay (by omega) (by omega)]
  simp

theorem lays_at {W T : Int} {cs : List Bool} {ls : List Int} (hy : laysB W T cs ls = true) {k : Nat} (hk : k < ls.length) (hv : ati ls k ≠ 0) :
    1 ≤ ati ls k ∧ ati ls k ≤ 4 ∧ atb cs k = true ∧ 0 ≤ stepI W T k (ati ls k) ∧ atb cs (stepI W T k (ati ls k)) = true ∧ ati ls (stepI W T k (ati ls k)) = backI (ati ls k) := by
  simp only [laysB, Bool.and_eq_true, decide_eq_true_eq, allB_iff] at hy
  have := hy.2 k hk
  simp only [layAt, decide_eq_true_eq] at this
  rcases this with h | h
  · exact absurd h hv
  · exact h

theorem lays_len {W T : Int} {cs : List Bool} {ls : List Int} (hy : laysB W T cs ls = true) : ls.length = cs.length := by
  simp only [laysB, Bool.and_eq_true, decide_eq_true_eq] at hy; exact hy.1

/-- A cell that a domino of a list reaches at the back is not bare. -/
theorem lays_back {W T : Int} {cs : List Bool} {ls : List Int} (hr : regB W T cs = true) (hy : laysB W T cs ls = true) {k t : Nat} {way : Int} (hk : k < ls.length) (ht : stepI W T k way = t) (hv : ati ls t = backI way) : ati ls k = way := by
  obtain ⟨w1, w2, t1, t2, l1, _⟩ := regB_W hr
  have hl := lays_len hy
  obtain ⟨b1, b2, b3, b4, b5⟩ := step_back (W := W) (T := T) (k := k) (way := way) w1 (by omega) (by omega) (by omega)
  obtain ⟨c1, c2, c3⟩ := backI_back b2 b3
  obtain ⟨_, _, _, _, _, g⟩ := lays_at hy (k := t) (by omega) (by omega)
  rw [hv, ← ht, b1, c1] at g
  exact g

theorem lay_has {W T : Int} {cs : List Bool} {b ls : List Int} {k : Nat} {way : Int} (hr : regB W T cs = true) (hb : b.length = cs.length) (hf : freeB W T cs b k way = true) (hs : hasB b ls = true) (h1 : ati ls k = way) (h2 : ati ls (stepI W T k way) = backI way) :
    hasB (layI W T b k way) ls = true := by
  obtain ⟨t, e, t1, t2, t3, _, _, _, _, z1, z2, hat⟩ := free_facts hr hb hf
  rw [e] at h2
  rw [hasB_iff] at hs ⊢
  intro j hj
  rw [layI_length] at hj
  rw [hat j]
  by_cases e1 : j = t
  · subst e1; rw [if_pos rfl]; exact .inr h2
  rw [if_neg e1]
  by_cases e2 : j = k
  · subst e2; rw [if_pos rfl]; exact .inr h1
  rw [if_neg e2]
  exact hs j hj

end Go.Proofs.Dev
