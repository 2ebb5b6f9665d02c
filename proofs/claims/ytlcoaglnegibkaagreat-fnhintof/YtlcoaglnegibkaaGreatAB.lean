/- Contracts of the functions of the program over slots and rows, each proved against the program itself; no condition beyond those that each theorem names. -/
import Derived.Test.YtlcoaglnegibkaaGreatAA
import Derived.Test.YtlcoaglnegibkaaGreatZ
import Derived.Test.YtlcoaglnegibkaaGreatJ

set_option linter.unusedSimpArgs false
set_option linter.unusedVariables false

namespace Go.Proofs.Dev
set_option linter.unusedSimpArgs false
set_option maxRecDepth 100000

def keepL (W T : Int) (ds t : List Int) : List (List Int) := if onceB (pairsI W T ds t) then [t] else []

end Go.Proofs.Dev

namespace Go.Proofs.Dev
set_option linter.unusedSimpArgs false
set_option maxRecDepth 100000

/-- Who takes ownership: each (140) of the list and of the closure, the closure (141) of all. -/
@[simp] def md2 (f : Nat) : List Bool := if f = 71 then [false, true, true] else if f = 72 then [true, true, true, true] else md0 f

/-- Those of some lists whose pairs are fair. -/
def keepT (W T : Int) (ds : List Int) (ps : List (List Int)) : List (List Int) := ps.filter fun t => onceB (pairsI W T ds t)
theorem keepT_one (W T : Int) (ds t : List Int) : keepT W T ds [t] = keepL W T ds t := by
  unfold keepT keepL
  cases h : onceB (pairsI W T ds t) <;> simp [h]
theorem keepT_append (W T : Int) (ds : List Int) (a b : List (List Int)) : keepT W T ds (a ++ b) = keepT W T ds a ++ keepT W T ds b := by simp [keepT]
theorem keepT_length (W T : Int) (ds : List Int) (a : List (List Int)) : (keepT W T ds a).length ≤ a.length := List.length_filter_le _ _

theorem s_impl_solutions_1F (W T : Int) (cs : List Bool) (ds t : List Int) (acc : List (List Int)) (hok : okB W T cs ds t = true) (ha : acc.length < 2 ^ 38) :
    SoundAt Tryz.prog n_impl_Region_solutions_1 [.os 1 (ints t), .op [.v (.int .i64 W), .v (.int .i64 T), .sl 0 1 (bools cs)], .op [.sl 0 1 (ints ds)], .op [.os 1 (oss acc)]]
      (.v (.bool true)) [.bot, .op [.v (.int .i64 W), .v (.int .i64 T), .sl 0 1 (bools cs)], .op [.sl 0 1 (ints ds)], .op [.os 1 (oss (acc ++ keepL W T ds t))]] := by
  refine fn_ok (md := md0) (ms := [false, true, true, true]) k_impl_Region_solutions_1 (by simp) ?_
  simp [c_impl_Region_solutions_1]
  refine call_on (s_impl_Region_fair W T cs ds t hok) ?_
  cases ho : onceB (pairsI W T ds t) with
  | false =>
    simp [keepL, ho]
  | true =>
    simp [keepL, ho]
    refine ⟨by omega, ?_⟩
    rw [oss_append, oss_one]
    exact List.take_of_length_le (by simp)

@[simp] theorem ints_getA (xs : List Int) (i : Nat) (h : i < (ints xs).length) : (ints xs)[i] = .v (.int .i64 (ati xs i)) := by
  have h2 : i < xs.length := by simpa using h
  simp [ints, ati, h2]

theorem ok141 : okFn Tryz.prog 72 = true := by kernel_rfl

/-- The rows and slots of each: what the closure holds, where the rows are numbered so. -/
def eachH (W T : Int) (cs : List Bool) (ds ls : List Int) (acc : List (List Int)) : Heap :=
  [some (.arr 1 (ints ls)), some (.box [.v (.int .i64 W), .v (.int .i64 T), .sl 0 1 (bools cs)]), some (.box [.sl 0 1 (ints ds)]), some (.box [.ls 1 5 0 acc.length]),
    some (.box [.v (.int .i64 W), .v (.int .i64 T), .sl 1 1 (bools cs)]), some (.arr 1 (oss acc))]
def eachH2 (W T : Int) (cs : List Bool) (ds ls : List Int) (acc : List (List Int)) : Heap :=
  [some (.arr 1 (ints ls)), some (.box [.v (.int .i64 W), .v (.int .i64 T), .sl 0 1 (bools cs)]), some (.box [.sl 0 1 (ints ds)]), some (.box [.ls 1 6 0 acc.length]),
    some (.box [.v (.int .i64 W), .v (.int .i64 T), .sl 1 1 (bools cs)]), some (.arr 1 [.v (.int .i64 1), .v (.int .i64 2)]), some (.arr 1 (oss acc))]

theorem each_of (W T : Int) (cs : List Bool) (ds : List Int) (hr : regB W T cs = true) (hd : digsB cs ds = true) (n : Nat)
    (ih : ∀ m, n = m + 1 → ∀ (ls : List Int) (acc : List (List Int)), zeros ls ≤ m → laysB W T cs ls = true → acc.length + 2 ^ m ≤ 2 ^ 37 →
      SoundAt Tryz.prog n_impl_Region_each [.agg [.v (.int .i64 W), .v (.int .i64 T), .sl 1 1 (bools cs)], .os 1 (ints ls), .fn 72 [.op [.v (.int .i64 W), .v (.int .i64 T), .sl 0 1 (bools cs)], .op [.sl 0 1 (ints ds)], .op [.os 1 (oss acc)]]]
        (.v (.bool true)) [.bot, .bot, .fn 72 [.op [.v (.int .i64 W), .v (.int .i64 T), .sl 0 1 (bools cs)], .op [.sl 0 1 (ints ds)], .op [.os 1 (oss (acc ++ keepT W T ds (allT W T cs m ls)))]]])
    (ls : List Int) (acc : List (List Int)) (hz : zeros ls ≤ n) (hy : laysB W T cs ls = true) (ha : acc.length + 2 ^ n ≤ 2 ^ 37) :
    SoundAt Tryz.prog n_impl_Region_each [.agg [.v (.int .i64 W), .v (.int .i64 T), .sl 1 1 (bools cs)], .os 1 (ints ls), .fn 72 [.op [.v (.int .i64 W), .v (.int .i64 T), .sl 0 1 (bools cs)], .op [.sl 0 1 (ints ds)], .op [.os 1 (oss acc)]]]
      (.v (.bool true)) [.bot, .bot, .fn 72 [.op [.v (.int .i64 W), .v (.int .i64 T), .sl 0 1 (bools cs)], .op [.sl 0 1 (ints ds)], .op [.os 1 (oss (acc ++ keepT W T ds (allT W T cs n ls)))]]] := by
  have h36 := regB_len hr
  have hl : ls.length = cs.length := by simp only [laysB, Bool.and_eq_true, decide_eq_true_eq] at hy; exact hy.1
  have hok : okB W T cs ds ls = true := by simp only [okB, hr, hd, hy, Bool.and_self]
  have hp : 0 < 2 ^ n := Nat.pow_pos (by omega)
  have hac : acc.length < 2 ^ 38 := Nat.lt_of_le_of_lt (Nat.le_trans (Nat.le_add_right _ _) ha) (by decide)
  refine fn_ok (md := md2) (ms := [false, false, true]) k_impl_Region_each (by simp) ?_
  simp [c_impl_Region_each]
  refine loop_by (fun m E H => ∃ i : Nat, m = ls.length - i ∧ i ≤ ls.length ∧ (∀ j : Nat, j < i → bareB cs ls j = false) ∧ H = eachH W T cs ds ls acc ∧
    E = [(1, .ls 1 0 0 ls.length), (2, .fn 72 [.lp 0 1 0 0, .lp 0 2 0 0, .lp 0 3 0 0]), (3, .lp 0 4 0 0), (7, .v (.int .i64 i)), (63, .fn 72 [.lp 0 1 0 0, .lp 0 2 0 0, .lp 0 3 0 0])]) ls.length ⟨0, by simp [eachH]⟩ ?_
  rintro J hJ m E H ⟨i, rfl, hi, hb, rfl, rfl⟩
  by_cases h : i < ls.length
  case neg =>
    have hi' : i = ls.length := by omega
    subst hi'
    have he : bareI cs ls = -1 := firstI_none hb
    simp [c_impl_Region_each_L0, eachH]
    refine ⟨ok141, call_on (s_impl_solutions_1F W T cs ds ls acc hok hac) ?_⟩
    simp [allT_leaf n (show bareI cs ls < 0 by omega), keepT_one]
    exact List.take_of_length_le (by simp)
  have next : bareB cs ls i = false → again J (ls.length - i) [(1, .ls 1 0 0 ls.length), (2, .fn 72 [.lp 0 1 0 0, .lp 0 2 0 0, .lp 0 3 0 0]), (3, .lp 0 4 0 0), (7, .v (.int .i64 (i + 1))), (63, .fn 72 [.lp 0 1 0 0, .lp 0 2 0 0, .lp 0 3 0 0])]
      (eachH W T cs ds ls acc) := by
    intro hx
    refine ⟨_, by omega, hJ _ _ _ ⟨i + 1, rfl, h, ?_, rfl, rfl⟩⟩
    intro j hj
    rcases Nat.lt_or_ge j i with h1 | h1
    · exact hb j h1
    · have : j = i := by omega
      subst this; exact hx
  have h2 : i < cs.length := by omega
  cases hc : atb cs i with
  | false =>
    have nx := next (by simp [bareB, hc])
    simp [eachH] at nx
    simp [c_impl_Region_each_L0, eachH, h, h2, hc]
    exact ⟨by omega, nx⟩
  | true =>
  by_cases z : ati ls i = 0
  case neg =>
    have nx := next (by simp [bareB, z])
    simp [eachH] at nx
    simp [c_impl_Region_each_L0, eachH, h, h2, hc, z]
    exact ⟨by omega, nx⟩
  have he : bareI cs ls = i := firstI_hit h (by simp [bareB, hc, z]) hb
  have hzp := zeros_pos h z
  obtain ⟨n', rfl⟩ : ∃ n', n = n' + 1 := ⟨n - 1, by omega⟩
  have hk0 : ¬ (i : Int) < 0 := by omega
  have hall : allT W T cs (n' + 1) ls = accT W T cs n' ls i 2 := by
    rw [allT, he, if_neg hk0]
    simp [accT, partT, List.range_succ]
  rw [hall]
  have hne : ¬ ((i : Int) = ls.length) := by omega
  simp [c_impl_Region_each_L0, eachH, h, h2, hc, z, hne]
  have b1 := accT_length W T cs n' ls i
  have hpow : 2 ^ (n' + 1) = 2 * 2 ^ n' := by rw [Nat.pow_succ]; omega
  refine loop_by (fun m E H => ∃ j : Nat, m = 2 - j ∧ j ≤ 2 ∧ H = eachH2 W T cs ds ls (acc ++ keepT W T ds (accT W T cs n' ls i j)) ∧
    E = [(1, .ls 1 0 0 ls.length), (2, .fn 72 [.lp 0 1 0 0, .lp 0 2 0 0, .lp 0 3 0 0]), (3, .lp 0 4 0 0), (7, .v (.int .i64 i)), (38, .ls 1 5 0 2), (39, .v (.int .i64 2)), (40, .v (.int .i64 j)), (63, .fn 72 [.lp 0 1 0 0, .lp 0 2 0 0, .lp 0 3 0 0])]) 2 ⟨0, by simp [eachH2, accT, keepT]⟩ ?_
  rintro J2 hJ2 m2 E2 H2 ⟨j, rfl, hj, rfl, rfl⟩
  by_cases h3 : j < 2
  case neg =>
    have : j = 2 := by omega
    subst this
    simp [c_impl_Region_each_L1, eachH2]
    exact List.take_of_length_le (by simp)
  have h01 : j = 0 ∨ j = 1 := by omega
  rcases h01 with rfl | rfl
  · have hsuc : accT W T cs n' ls i (0 + 1) = accT W T cs n' ls i 0 ++ partT W T cs n' ls i 1 := by simpa using accT_succ W T cs n' ls i 0
    have bl := b1 0
    have kl := keepT_length W T ds (accT W T cs n' ls i 0)
    have hlen : (acc ++ keepT W T ds (accT W T cs n' ls i 0)).length + 2 ^ n' ≤ 2 ^ 37 := by rw [List.length_append]; omega
    have next2 : ∀ x, partT W T cs n' ls i 1 = x → again J2 (2 - 0) [(1, .ls 1 0 0 ls.length), (2, .fn 72 [.lp 0 1 0 0, .lp 0 2 0 0, .lp 0 3 0 0]), (3, .lp 0 4 0 0), (7, .v (.int .i64 i)), (38, .ls 1 5 0 2), (39, .v (.int .i64 2)), (40, .v (.int .i64 1)), (63, .fn 72 [.lp 0 1 0 0, .lp 0 2 0 0, .lp 0 3 0 0])]
        (eachH2 W T cs ds ls ((acc ++ keepT W T ds (accT W T cs n' ls i 0)) ++ keepT W T ds x)) := by
      rintro x rfl
      refine ⟨_, by omega, hJ2 _ _ _ ⟨0 + 1, rfl, by omega, ?_, rfl⟩⟩
      rw [hsuc, keepT_append, List.append_assoc]
    generalize hA : acc ++ keepT W T ds (accT W T cs n' ls i 0) = A at *
    simp [c_impl_Region_each_L1, eachH2]
    refine call_on (s_impl_Region_free W T cs ls i 1 hr hl) ?_
    cases hf : freeB W T cs ls i 1 with
    | false =>
      have nx := next2 [] (by simp [partT, hf])
      simp [eachH2, keepT] at nx
      simp
      exact nx
    | true =>
      have nx := next2 (allT W T cs n' (layI W T ls i 1)) (by simp [partT, hf])
      have hzl : zeros (layI W T ls i 1) < zeros ls := lay_zeros h z (by omega) (by omega)
      have rcr := ih n' rfl (layI W T ls i 1) A (by omega) (lay_ok hr hy hf) hlen
      have hll := layI_length W T ls i 1
      simp [eachH2] at nx
      simp
      (repeat' first | assumption | omega | apply And.intro) <;>
      · refine call_on (s_impl_Region_lay W T cs ls i 1 hr hl hf) ?_
        simp [hll]
        (repeat' first | assumption | omega | apply And.intro) <;>
        · refine call_on rcr ?_
          simp [hll]
          exact nx
  · have hsuc : accT W T cs n' ls i (1 + 1) = accT W T cs n' ls i 1 ++ partT W T cs n' ls i 2 := by simpa using accT_succ W T cs n' ls i 1
    have bl := b1 1
    have kl := keepT_length W T ds (accT W T cs n' ls i 1)
    have hlen : (acc ++ keepT W T ds (accT W T cs n' ls i 1)).length + 2 ^ n' ≤ 2 ^ 37 := by rw [List.length_append]; omega
    have next2 : ∀ x, partT W T cs n' ls i 2 = x → again J2 (2 - 1) [(1, .ls 1 0 0 ls.length), (2, .fn 72 [.lp 0 1 0 0, .lp 0 2 0 0, .lp 0 3 0 0]), (3, .lp 0 4 0 0), (7, .v (.int .i64 i)), (38, .ls 1 5 0 2), (39, .v (.int .i64 2)), (40, .v (.int .i64 2)), (63, .fn 72 [.lp 0 1 0 0, .lp 0 2 0 0, .lp 0 3 0 0])]
        (eachH2 W T cs ds ls ((acc ++ keepT W T ds (accT W T cs n' ls i 1)) ++ keepT W T ds x)) := by
      rintro x rfl
      refine ⟨_, by omega, hJ2 _ _ _ ⟨1 + 1, rfl, by omega, ?_, rfl⟩⟩
      rw [hsuc, keepT_append, List.append_assoc]
    generalize hA : acc ++ keepT W T ds (accT W T cs n' ls i 1) = A at *
    simp [c_impl_Region_each_L1, eachH2]
    refine call_on (s_impl_Region_free W T cs ls i 2 hr hl) ?_
    cases hf : freeB W T cs ls i 2 with
    | false =>
      have nx := next2 [] (by simp [partT, hf])
      simp [eachH2, keepT] at nx
      simp
      exact nx
    | true =>
      have nx := next2 (allT W T cs n' (layI W T ls i 2)) (by simp [partT, hf])
      have hzl : zeros (layI W T ls i 2) < zeros ls := lay_zeros h z (by omega) (by omega)
      have rcr := ih n' rfl (layI W T ls i 2) A (by omega) (lay_ok hr hy hf) hlen
      have hll := layI_length W T ls i 2
      simp [eachH2] at nx
      simp
      (repeat' first | assumption | omega | apply And.intro) <;>
      · refine call_on (s_impl_Region_lay W T cs ls i 2 hr hl hf) ?_
        simp [hll]
        (repeat' first | assumption | omega | apply And.intro) <;>
        · refine call_on rcr ?_
          simp [hll]
          exact nx

theorem s_impl_each (W T : Int) (cs : List Bool) (ds : List Int) (hr : regB W T cs = true) (hd : digsB cs ds = true) : ∀ (n : Nat) (ls : List Int) (acc : List (List Int)), zeros ls ≤ n → laysB W T cs ls = true → acc.length + 2 ^ n ≤ 2 ^ 37 →
    SoundAt Tryz.prog n_impl_Region_each [.agg [.v (.int .i64 W), .v (.int .i64 T), .sl 1 1 (bools cs)], .os 1 (ints ls), .fn 72 [.op [.v (.int .i64 W), .v (.int .i64 T), .sl 0 1 (bools cs)], .op [.sl 0 1 (ints ds)], .op [.os 1 (oss acc)]]]
      (.v (.bool true)) [.bot, .bot, .fn 72 [.op [.v (.int .i64 W), .v (.int .i64 T), .sl 0 1 (bools cs)], .op [.sl 0 1 (ints ds)], .op [.os 1 (oss (acc ++ keepT W T ds (allT W T cs n ls)))]]] := by
  intro n
  induction n with
  | zero => intro ls acc h1 h2 h3; exact each_of W T cs ds hr hd 0 (fun m h => by omega) ls acc h1 h2 h3
  | succ n ih =>
    intro ls acc h1 h2 h3
    refine each_of W T cs ds hr hd (n + 1) (fun m h => ?_) ls acc h1 h2 h3
    have : m = n := by omega
    subst this
    exact ih

end Go.Proofs.Dev
