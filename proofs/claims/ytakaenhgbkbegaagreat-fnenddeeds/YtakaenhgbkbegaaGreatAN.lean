/- Contracts of the functions of the program over slots and rows, each proved against the program itself; no condition beyond those that each theorem names. -/
import Derived.Test.YtakaenhgbkbegaaGreatAM
import Derived.Test.YtakaenhgbkbegaaGreatProg

set_option linter.unusedSimpArgs false
set_option linter.unusedVariables false

namespace Go.Proofs.Dev
set_option linter.unusedSimpArgs false
set_option maxRecDepth 100000

/-- A domino may be laid, and what is laid then is fair. -/
def optB (W T : Int) (cs : List Bool) (ds ls : List Int) (cell way : Int) : Bool := freeB W T cs ls cell way && onceB (pairsI W T ds (layI W T ls cell way))
def optTo (W T : Int) (cs : List Bool) (ds ls : List Int) (cell : Int) (n : Nat) : List Int := (List.range n).flatMap fun k : Nat => if optB W T cs ds ls cell (k + 1) then [(k : Int) + 1] else []
def optsI (W T : Int) (cs : List Bool) (ds ls : List Int) (cell : Int) : List Int := optTo W T cs ds ls cell 4

theorem optTo_succ (W T : Int) (cs : List Bool) (ds ls : List Int) (cell : Int) (n : Nat) : optTo W T cs ds ls cell (n + 1) = optTo W T cs ds ls cell n ++ if optB W T cs ds ls cell (n + 1) then [(n : Int) + 1] else [] := by
  simp [optTo, List.range_succ]
theorem optTo_length (W T : Int) (cs : List Bool) (ds ls : List Int) (cell : Int) : ∀ n, (optTo W T cs ds ls cell n).length ≤ n
  | 0 => by simp [optTo]
  | n + 1 => by
    have := optTo_length W T cs ds ls cell n
    rw [optTo_succ]; split <;> simp <;> omega

theorem okB_lay {W T : Int} {cs : List Bool} {ds ls : List Int} {cell way : Int} (h : okB W T cs ds ls = true) (hf : freeB W T cs ls cell way = true) : okB W T cs ds (layI W T ls cell way) = true := by
  have h' := h
  simp only [okB, Bool.and_eq_true] at h' ⊢
  exact ⟨h'.1, h'.2.1, lay_ok h'.1 h'.2.2 hf⟩

theorem s_impl_Region_options (W T : Int) (cs : List Bool) (ds ls : List Int) (cell : Int) (hok : okB W T cs ds ls = true) :
    SoundAt Tryz.prog n_impl_Region_options [.agg [.v (.int .i64 W), .v (.int .i64 T), .sl 1 1 (bools cs)], .sl 1 1 (ints ds), .sl 1 1 (ints ls), .v (.int .i64 cell)] (.os 1 (ints (optsI W T cs ds ls cell))) [.bot, .bot, .bot, .bot] := by
  refine fn_ok (md := md0) (ms := [false, false, false, false]) k_impl_Region_options (by simp) ?_
  obtain ⟨hr, e1, e2, _⟩ := okB_W hok
  have h36 := regB_len hr
  simp [c_impl_Region_options]
  refine loop_by (fun m E H => ∃ i : Nat, m = 4 - i ∧ i ≤ 4 ∧ H = [some (.box [.v (.int .i64 W), .v (.int .i64 T), .sl 1 1 (bools cs)]), some (.arr 1 (ints (optTo W T cs ds ls cell i)))] ∧
    E = [(1, .sl 1 1 (ints ds)), (2, .sl 1 1 (ints ls)), (3, .v (.int .i64 cell)), (4, .lp 0 0 0 0), (9, .ls 1 1 0 (optTo W T cs ds ls cell i).length), (10, .v (.int .i64 (i + 1)))]) 4 ⟨0, by simp [optTo]⟩ ?_
  rintro J hJ m E H ⟨i, rfl, hi, rfl, rfl⟩
  have hlen := optTo_length W T cs ds ls cell i
  have hsuc := optTo_succ W T cs ds ls cell i
  by_cases h : i < 4
  case neg =>
    have : i = 4 := by omega
    subst this
    simp [c_impl_Region_options_L0]
    refine call_on (s_slices_Clip_int_int (optTo W T cs ds ls cell 4)) ?_
    simp [optsI]
  have h' : (i : Int) + 1 ≤ 4 := by omega
  have one := s_impl_Region_free W T cs ls cell (i + 1) hr e2
  have next : ∀ (x : List Int), optTo W T cs ds ls cell (i + 1) = optTo W T cs ds ls cell i ++ x → again J (4 - i) [(1, .sl 1 1 (ints ds)), (2, .sl 1 1 (ints ls)), (3, .v (.int .i64 cell)), (4, .lp 0 0 0 0), (9, .ls 1 1 0 ((optTo W T cs ds ls cell i).length + x.length)), (10, .v (.int .i64 (i + 1 + 1)))]
      [some (.box [.v (.int .i64 W), .v (.int .i64 T), .sl 1 1 (bools cs)]), some (.arr 1 (ints (optTo W T cs ds ls cell i) ++ ints x))] := by
    intro x hx
    refine ⟨_, by omega, hJ _ _ _ ⟨i + 1, rfl, h, ?_, ?_⟩⟩
    · rw [hx, ints_append]
    · rw [hx, List.length_append]; rfl
  simp [c_impl_Region_options_L0, h']
  refine call_on one ?_
  cases hf : freeB W T cs ls cell (i + 1) with
  | false =>
    have ho : optB W T cs ds ls cell (i + 1) = false := by simp [optB, hf]
    rw [if_neg (by simp [ho])] at hsuc
    have n := next [] hsuc
    simp at n
    simp
    exact ⟨by omega, n⟩
  | true =>
  have two := s_impl_Region_lay W T cs ls cell (i + 1) hr e2 hf
  have three := s_impl_Region_fair W T cs ds (layI W T ls cell (i + 1)) (okB_lay hok hf)
  have hl := layI_length W T ls cell (i + 1)
  have ht : (layI W T ls cell (i + 1)).take ls.length = layI W T ls cell (i + 1) := List.take_of_length_le (by omega)
  simp
  (repeat' first | assumption | apply And.intro) <;>
  · refine call_on two ?_
    simp [hl, take_ints, ht]
    (repeat' first | assumption | apply And.intro) <;>
    · refine call_on three ?_
      cases ho : onceB (pairsI W T ds (layI W T ls cell (i + 1))) with
      | false =>
        have ho : optB W T cs ds ls cell (i + 1) = false := by simp [optB, ho]
        rw [if_neg (by simp [ho])] at hsuc
        have n := next [] hsuc
        simp at n
        simp [hl, take_ints, ht]
        exact ⟨by omega, n⟩
      | true =>
        have ho : optB W T cs ds ls cell (i + 1) = true := by simp [optB, ho, hf]
        rw [if_pos ho] at hsuc
        have n := next _ hsuc
        simp at n
        simp [hl, take_ints, ht]
        exact ⟨by omega, by omega, n⟩

theorem s_spec_StepTo (W T : Int) (cs : List Bool) (cell way : Int) (hr : regB W T cs = true) :
    SoundAt Tryz.prog n_spec_StepTo [.agg [.v (.int .i64 W), .v (.int .i64 T), .sl 1 1 (bools cs)], .v (.int .i64 cell), .v (.int .i64 way)] (.v (.int .i64 (if 0 ≤ cell ∧ cell < cs.length ∧ 1 ≤ way ∧ way ≤ 4 then stepI W T cell way else -1))) [.bot, .bot, .bot] := by
  refine fn_ok (md := md0) (ms := [false, false, false]) k_spec_StepTo (by simp) ?_
  have h36 := regB_len hr
  simp [c_spec_StepTo]
  refine call_on (s_spec_RegionValid W T cs (by omega)) ?_
  simp [hr]
  refine ⟨by omega, ?_⟩
  by_cases h : 0 ≤ cell ∧ cell < cs.length
  case neg =>
    refine call_on (s_spec_l1In_f (x := cell) (lo := 0) (hi := cs.length - 1) (by omega)) ?_
    rw [if_neg (fun x => h ⟨x.1, x.2.1⟩)]
    simp
  refine call_on (s_spec_l1In_t (x := cell) (lo := 0) (hi := cs.length - 1) (by omega)) ?_
  simp
  by_cases hw : 1 ≤ way ∧ way ≤ 4
  case neg =>
    refine call_on (s_spec_l1In_f hw) ?_
    rw [if_neg (fun x => hw x.2.2)]
    simp
  refine call_on (s_spec_l1In_t hw) ?_
  simp
  refine call_on (s_spec_l2Step W T cs cell way hr h.1 h.2) ?_
  simp [h, hw]

/-- What LayOne gives. -/
def layOneL (W T : Int) (cs : List Bool) (ls : List Int) (cell way : Int) : List Int := if freeB W T cs ls cell way then layI W T ls cell way else ls

theorem s_spec_LayOne (W T : Int) (cs : List Bool) (ls : List Int) (cell way : Int) (hr : regB W T cs = true) (hy : laysB W T cs ls = true) :
    SoundAt Tryz.prog n_spec_LayOne [.agg [.v (.int .i64 W), .v (.int .i64 T), .sl 1 1 (bools cs)], .sl 1 1 (ints ls), .v (.int .i64 cell), .v (.int .i64 way)]
      (.tup [.os 1 (ints (layOneL W T cs ls cell way)), .v (.bool (freeB W T cs ls cell way))]) [.bot, .bot, .bot, .bot] := by
  refine fn_ok (md := md0) (ms := [false, false, false, false]) k_spec_LayOne (by simp) ?_
  have h36 := regB_len hr
  obtain ⟨w1, w2, t1, t2, l1, _⟩ := regB_W hr
  have hl : ls.length = cs.length := by simp only [laysB, Bool.and_eq_true, decide_eq_true_eq] at hy; exact hy.1
  simp [c_spec_LayOne]
  refine call_on (s_spec_LaidOk W T cs ls (by omega) (by omega)) ?_
  simp [hr, hy]
  refine ⟨by omega, ?_⟩
  refine call_on (s_spec_StepTo W T cs cell way hr) ?_
  by_cases h : 0 ≤ cell ∧ cell < cs.length
  case neg =>
    have hf : freeB W T cs ls cell way = false := decide_eq_false (fun x => h ⟨x.1, x.2.1⟩)
    rw [if_neg (fun x => h ⟨x.1, x.2.1⟩)]
    simp [hf, layOneL]
  have hst := stepI_range (T := T) (way := way) w1 h.1 (by omega)
  have e0 : (if 0 ≤ cell ∧ cell < cs.length ∧ 1 ≤ way ∧ way ≤ 4 then stepI W T cell way else -1) = stepI W T cell way := by
    rcases hst with hst | hst
    · split
      · rfl
      · exact hst.symm
    · rw [if_pos ⟨h.1, h.2, hst.2.2.1, hst.2.2.2⟩]
  rw [e0]
  by_cases hneg : stepI W T cell way < 0
  · have hf : freeB W T cs ls cell way = false := decide_eq_false (fun x => by omega)
    simp [hneg, hf, layOneL]
  obtain ⟨h3, h4, h5, h6⟩ : 0 ≤ stepI W T cell way ∧ stepI W T cell way < W * T ∧ 1 ≤ way ∧ way ≤ 4 := by
    rcases hst with hst | hst
    · omega
    · exact hst
  have hfree : freeB W T cs ls cell way = decide (atb cs cell = true ∧ atb cs (stepI W T cell way) = true ∧ ati ls cell = 0 ∧ ati ls (stepI W T cell way) = 0) := by
    simp [freeB, h, h3]
  have e2 : ((ints ls).set cell.toNat (.v (.int .i64 way))).set (stepI W T cell way).toNat (.v (.int .i64 (backI way))) = ints (layI W T ls cell way) := by rw [ints_set, ints_set]; rfl
  have ht : (layI W T ls cell way).length = ls.length := layI_length W T ls cell way
  have hk : (ints (layI W T ls cell way)).take ls.length = ints (layI W T ls cell way) := List.take_of_length_le (by simp [ht])
  have hk0 : (ints ls).take cs.length = ints ls := List.take_of_length_le (by simp [hl])
  have two := s_spec_l2Back way (by omega) (by omega)
  unfold layOneL
  rw [hfree]
  clear hfree e0 hst
  generalize stepI W T cell way = to at *
  have h7 : to < cs.length := by omega
  have h8 : ¬ to < 0 := hneg
  cases hc : atb cs cell with
  | false => simp [h, h8, hc]
  | true =>
  cases ht' : atb cs to with
  | false => simp [h, h3, h7, h8, hc, ht']
  | true =>
  by_cases z : ati ls cell = 0
  case neg => simp [h, h3, h7, h8, hc, ht', hl, z, hk0]
  by_cases z2 : ati ls to = 0
  case neg => simp [h, h3, h7, h8, hc, ht', hl, z, z2, hk0]
  have g3 : cell.toNat < ls.length := by omega
  have g4 : to.toNat < ls.length := by omega
  have g1 : cell < ls.length := by omega
  have g2 : to < ls.length := by omega
  simp [h, h3, h7, h8, hc, ht', g1, g2, g3, g4, z, z2]
  refine call_on two ?_
  simp [h, h3, h7, h8, g1, g2, g3, g4, e2, ht, hk]

end Go.Proofs.Dev

namespace Go.Proofs.Dev
set_option linter.unusedSimpArgs false
set_option maxRecDepth 100000

def optsOf (W T : Int) (cs : List Bool) (ds ls : List Int) (cell : Int) : List Int := if fairB W T cs ds ls then optsI W T cs ds ls cell else []

theorem layOne_length (W T : Int) (cs : List Bool) (ls : List Int) (cell way : Int) : (layOneL W T cs ls cell way).length = ls.length := by
  unfold layOneL; split
  · exact layI_length ..
  · rfl

theorem s_spec_OptionsOf (W T : Int) (cs : List Bool) (ds ls : List Int) (cell : Int) (hb : cs.length < 2 ^ 40) (hd : ds.length < 2 ^ 40) (hl : ls.length < 2 ^ 40) :
    SoundAt Tryz.prog n_spec_OptionsOf [.agg [.v (.int .i64 W), .v (.int .i64 T), .sl 1 1 (bools cs)], .sl 1 1 (ints ds), .sl 1 1 (ints ls), .v (.int .i64 cell)] (.os 1 (ints (optsOf W T cs ds ls cell))) [.bot, .bot, .bot, .bot] := by
  refine fn_ok (md := md0) (ms := [false, false, false, false]) k_spec_OptionsOf (by simp) ?_
  simp [c_spec_OptionsOf]
  have one := s_spec_FairOk W T cs ds ls hb hd hl
  refine loop_by (fun m E H => ∃ i : Nat, m = 4 - i ∧ i ≤ 4 ∧ (i = 0 ∨ fairB W T cs ds ls = true) ∧ H = [some (.box [.v (.int .i64 W), .v (.int .i64 T), .sl 1 1 (bools cs)]), some (.arr 1 (ints (optTo W T cs ds ls cell i)))] ∧
    E = [(1, .sl 1 1 (ints ds)), (2, .sl 1 1 (ints ls)), (3, .v (.int .i64 cell)), (4, .lp 0 0 0 0), (9, .ls 1 1 0 (optTo W T cs ds ls cell i).length), (10, .v (.int .i64 (i + 1)))]) 4 ⟨0, by simp [optTo]⟩ ?_
  rintro J hJ m E H ⟨i, rfl, hi, hf0, rfl, rfl⟩
  have hlen := optTo_length W T cs ds ls cell i
  have hsuc := optTo_succ W T cs ds ls cell i
  by_cases h : i < 4
  case neg =>
    have : i = 4 := by omega
    subst this
    have hf : fairB W T cs ds ls = true := by rcases hf0 with h0 | h0; omega; exact h0
    simp [c_spec_OptionsOf_L0, optsOf, hf, optsI]
  have h' : (i : Int) + 1 ≤ 4 := by omega
  simp [c_spec_OptionsOf_L0, h']
  refine call_on one ?_
  cases hf : fairB W T cs ds ls with
  | false =>
    have : i = 0 := by rcases hf0 with h0 | h0; exact h0; rw [hf] at h0; cases h0
    subst this
    simp [optsOf, hf, optTo]
  | true =>
  have hok := fairB_ok hf
  obtain ⟨hr, e1, e2, hy⟩ := okB_W hok
  have h36 := regB_len hr
  have next : ∀ (x : List Int), optTo W T cs ds ls cell (i + 1) = optTo W T cs ds ls cell i ++ x → again J (4 - i) [(1, .sl 1 1 (ints ds)), (2, .sl 1 1 (ints ls)), (3, .v (.int .i64 cell)), (4, .lp 0 0 0 0), (9, .ls 1 1 0 ((optTo W T cs ds ls cell i).length + x.length)), (10, .v (.int .i64 (i + 1 + 1)))]
      [some (.box [.v (.int .i64 W), .v (.int .i64 T), .sl 1 1 (bools cs)]), some (.arr 1 (ints (optTo W T cs ds ls cell i) ++ ints x))] := by
    intro x hx
    refine ⟨_, by omega, hJ _ _ _ ⟨i + 1, rfl, h, .inr hf, ?_, ?_⟩⟩
    · rw [hx, ints_append]
    · rw [hx, List.length_append]; rfl
  have hll := layOne_length W T cs ls cell (i + 1)
  have hly : laysB W T cs ls = true := by
    simp only [okB, Bool.and_eq_true] at hok; exact hok.2.2
  have two := s_spec_LayOne W T cs ls cell (i + 1) hr hly
  have three := s_spec_FairOk W T cs ds (layOneL W T cs ls cell (i + 1)) hb hd (by omega)
  have ht : (layOneL W T cs ls cell (i + 1)).take ls.length = layOneL W T cs ls cell (i + 1) := List.take_of_length_le (by omega)
  simp
  refine call_on two ?_
  simp [hll, take_ints, ht]
  cases hfr : freeB W T cs ls cell (i + 1) with
  | false =>
    have ho : optB W T cs ds ls cell (i + 1) = false := by simp [optB, hfr]
    rw [if_neg (by simp [ho])] at hsuc
    have n := next [] hsuc
    simp at n
    simp
    exact ⟨by omega, n⟩
  | true =>
  simp
  have e3 : fairB W T cs ds (layOneL W T cs ls cell (i + 1)) = optB W T cs ds ls cell (i + 1) := by
    simp [layOneL, hfr, fairB, optB, okB_lay hok hfr]
  refine call_on three ?_
  rw [e3]
  cases ho : optB W T cs ds ls cell (i + 1) with
  | false =>
    rw [if_neg (by simp [ho])] at hsuc
    have n := next [] hsuc
    simp at n
    simp [hll, take_ints, ht]
    exact ⟨by omega, n⟩
  | true =>
    rw [if_pos ho] at hsuc
    have n := next _ hsuc
    simp at n
    simp [hll, take_ints, ht]
    exact ⟨by omega, by omega, n⟩

theorem optsI_bare (W T : Int) (cs : List Bool) (ds ls : List Int) (cell : Int) (h : ¬ (0 ≤ cell ∧ cell < cs.length ∧ atb cs cell = true ∧ ati ls cell = 0)) : optsI W T cs ds ls cell = [] := by
  have hf : ∀ way, optB W T cs ds ls cell way = false := by
    intro way
    have : freeB W T cs ls cell way = false := decide_eq_false (fun x => h ⟨x.1, x.2.1, x.2.2.2.1, x.2.2.2.2.2.1⟩)
    simp [optB, this]
  simp [optsI, optTo, hf]

end Go.Proofs.Dev

namespace Go.Proofs.Dev
set_option linter.unusedSimpArgs false
set_option maxRecDepth 100000

/-- The first place that fits, or -1. -/
def firstI (p : Nat → Bool) (n : Nat) : Int := match (List.range n).find? p with | some k => k | none => -1
theorem firstI_hit {p : Nat → Bool} {n k : Nat} (hk : k < n) (hp : p k = true) (h : ∀ j, j < k → p j = false) : firstI p n = k := by
  have : (List.range n).find? p = some k := by
    rw [List.find?_range_eq_some]
    exact ⟨hp, by simpa using hk, fun j hj => by simp [h j hj]⟩
  simp [firstI, this]
theorem firstI_none {p : Nat → Bool} {n : Nat} (h : ∀ j, j < n → p j = false) : firstI p n = -1 := by
  have : (List.range n).find? p = none := by
    rw [List.find?_eq_none]
    intro x hx
    simp [h x (by simpa using hx)]
  simp [firstI, this]
theorem firstI_cases (p : Nat → Bool) (n : Nat) : (firstI p n = -1) ∨ ∃ k : Nat, k < n ∧ p k = true ∧ firstI p n = k := by
  unfold firstI
  split
  · rename_i k hk
    right
    rw [List.find?_range_eq_some] at hk
    exact ⟨k, by simpa using hk.2.1, hk.1, rfl⟩
  · left; rfl

def hitB (W T : Int) (cs : List Bool) (ds ls : List Int) (n : Int) (k : Nat) : Bool := (atb cs k && decide (ati ls k = 0)) && decide (((optsI W T cs ds ls k).length : Int) = n)

theorem s_impl_Region_first (W T : Int) (cs : List Bool) (ds ls : List Int) (n : Int) (hok : okB W T cs ds ls = true) :
    SoundAt Tryz.prog n_impl_Region_first [.agg [.v (.int .i64 W), .v (.int .i64 T), .sl 1 1 (bools cs)], .sl 1 1 (ints ds), .sl 1 1 (ints ls), .v (.int .i64 n)] (.v (.int .i64 (firstI (hitB W T cs ds ls n) ls.length))) [.bot, .bot, .bot, .bot] := by
  refine fn_ok (md := md0) (ms := [false, false, false, false]) k_impl_Region_first (by simp) ?_
  obtain ⟨hr, e1, e2, _⟩ := okB_W hok
  have h36 := regB_len hr
  simp [c_impl_Region_first]
  refine loop_by (fun m E H => ∃ i : Nat, m = ls.length - i ∧ i ≤ ls.length ∧ (∀ j : Nat, j < i → hitB W T cs ds ls n j = false) ∧ H = [some (.box [.v (.int .i64 W), .v (.int .i64 T), .sl 1 1 (bools cs)])] ∧
    E = [(1, .sl 1 1 (ints ds)), (2, .sl 1 1 (ints ls)), (3, .v (.int .i64 n)), (4, .lp 0 0 0 0), (11, .v (.int .i64 ls.length)), (12, .v (.int .i64 i))]) ls.length ⟨0, by simp⟩ ?_
  rintro J hJ m E H ⟨i, rfl, hi, ha, rfl, rfl⟩
  by_cases h : i < ls.length
  case neg =>
    have : i = ls.length := by omega
    subst this
    simp [c_impl_Region_first_L0, firstI_none ha]
  have next : hitB W T cs ds ls n i = false → again J (ls.length - i) [(1, .sl 1 1 (ints ds)), (2, .sl 1 1 (ints ls)), (3, .v (.int .i64 n)), (4, .lp 0 0 0 0), (11, .v (.int .i64 ls.length)), (12, .v (.int .i64 (i + 1)))]
      [some (.box [.v (.int .i64 W), .v (.int .i64 T), .sl 1 1 (bools cs)])] := by
    intro hx
    refine ⟨_, by omega, hJ _ _ _ ⟨i + 1, rfl, h, ?_, rfl, rfl⟩⟩
    intro j hj
    rcases Nat.lt_or_ge j i with h1 | h1
    · exact ha j h1
    · have : j = i := by omega
      subst this; exact hx
  have hit := fun hx : hitB W T cs ds ls n i = true => firstI_hit h hx ha
  have one := s_impl_Region_bare W T cs ls i (by omega) e2
  have two := s_impl_Region_options W T cs ds ls i hok
  have hop : (optsI W T cs ds ls i).length ≤ 4 := optTo_length ..
  have hii : (i : Int) < cs.length := by omega
  simp [c_impl_Region_first_L0, h]
  refine call_on one ?_
  cases hb : (atb cs i && decide (ati ls i = 0)) with
  | false =>
    have hx : hitB W T cs ds ls n i = false := by simp [hitB, hb]
    have hb' : decide (0 ≤ (i : Int) ∧ (i : Int) < cs.length ∧ atb cs i = true ∧ ati ls i = 0) = false := by
      simp at hb ⊢; intro _; exact hb
    rw [hb']
    simp
    exact ⟨by omega, next hx⟩
  | true =>
  have hb' : decide (0 ≤ (i : Int) ∧ (i : Int) < cs.length ∧ atb cs i = true ∧ ati ls i = 0) = true := by
    simp at hb ⊢; exact ⟨by omega, hb⟩
  rw [hb']
  simp
  refine call_on two ?_
  by_cases hn : ((optsI W T cs ds ls i).length : Int) = n
  · have hx : hitB W T cs ds ls n i = true := by simp [hitB, hb, hn]
    simp [hn, hit hx]
  · have hx : hitB W T cs ds ls n i = false := by simp [hitB, hb, hn]
    simp [hn]
    exact ⟨by omega, next hx⟩

end Go.Proofs.Dev

namespace Go.Proofs.Dev
set_option linter.unusedSimpArgs false
set_option maxRecDepth 100000

theorem optTo_mem (W T : Int) (cs : List Bool) (ds ls : List Int) (cell : Int) {n : Nat} {x : Int} (h : x ∈ optTo W T cs ds ls cell n) : optB W T cs ds ls cell x = true ∧ 1 ≤ x ∧ x ≤ n := by
  simp only [optTo, List.mem_flatMap, List.mem_range] at h
  obtain ⟨k, hk, hx⟩ := h
  split at hx
  · rename_i ho
    simp at hx
    subst hx
    exact ⟨ho, by omega, by omega⟩
  · simp at hx

theorem optB_free {W T : Int} {cs : List Bool} {ds ls : List Int} {cell x : Int} (h : optB W T cs ds ls cell x = true) : freeB W T cs ls cell x = true := by
  simp only [optB, Bool.and_eq_true] at h; exact h.1
theorem optB_fair {W T : Int} {cs : List Bool} {ds ls : List Int} {cell x : Int} (hok : okB W T cs ds ls = true) (h : optB W T cs ds ls cell x = true) : fairB W T cs ds (layI W T ls cell x) = true := by
  have h' := h
  simp only [optB, Bool.and_eq_true] at h'
  simp only [fairB, Bool.and_eq_true]
  exact ⟨okB_lay hok h'.1, h'.2⟩

/-- The cell of the first forced domino, its way, and what is laid then. -/
def oneI (W T : Int) (cs : List Bool) (ds ls : List Int) : Int := firstI (hitB W T cs ds ls 1) ls.length
def wayI (W T : Int) (cs : List Bool) (ds ls : List Int) : Int := ati (optsI W T cs ds ls (oneI W T cs ds ls)) 0
def force1 (W T : Int) (cs : List Bool) (ds ls : List Int) : List Int := if oneI W T cs ds ls < 0 then ls else layI W T ls (oneI W T cs ds ls) (wayI W T cs ds ls)
def force1B (W T : Int) (cs : List Bool) (ds ls : List Int) : Bool := decide (¬ oneI W T cs ds ls < 0)
theorem force1_length (W T : Int) (cs : List Bool) (ds ls : List Int) : (force1 W T cs ds ls).length = ls.length := by
  unfold force1; split
  · rfl
  · exact layI_length ..

theorem one_cases (W T : Int) (cs : List Bool) (ds ls : List Int) : oneI W T cs ds ls = -1 ∨ ∃ k : Nat, k < ls.length ∧ oneI W T cs ds ls = k ∧ atb cs k = true ∧ ati ls k = 0 ∧ optsI W T cs ds ls k = [wayI W T cs ds ls] ∧ optB W T cs ds ls k (wayI W T cs ds ls) = true ∧ 1 ≤ wayI W T cs ds ls ∧ wayI W T cs ds ls ≤ 4 := by
  rcases firstI_cases (hitB W T cs ds ls 1) ls.length with h | ⟨k, hk, hp, he⟩
  · left; exact h
  · right
    have he' : oneI W T cs ds ls = k := he
    simp only [hitB, Bool.and_eq_true, decide_eq_true_eq] at hp
    have h1 : (optsI W T cs ds ls k).length = 1 := by omega
    obtain ⟨x, hx⟩ := List.length_eq_one_iff.1 h1
    have hw : wayI W T cs ds ls = x := by simp [wayI, he', hx, ati]
    have hin : x ∈ optsI W T cs ds ls k := by rw [hx]; simp
    have hm := optTo_mem W T cs ds ls k (n := 4) (x := x) hin
    rw [hw]
    exact ⟨k, hk, he', hp.1.1, hp.1.2, hx, hm.1, hm.2.1, hm.2.2⟩

theorem s_impl_Region_force (W T : Int) (cs : List Bool) (ds ls : List Int) (hok : okB W T cs ds ls = true) :
    SoundAt Tryz.prog n_impl_Region_force [.agg [.v (.int .i64 W), .v (.int .i64 T), .sl 1 1 (bools cs)], .sl 1 1 (ints ds), .sl 1 1 (ints ls)] (.tup [.os 1 (ints (force1 W T cs ds ls)), .v (.bool (force1B W T cs ds ls))]) [.bot, .bot, .bot] := by
  refine fn_ok (md := md0) (ms := [false, false, false]) k_impl_Region_force (by simp) ?_
  obtain ⟨hr, e1, e2, _⟩ := okB_W hok
  have h36 := regB_len hr
  simp [c_impl_Region_force]
  refine call_on (s_impl_Region_first W T cs ds ls 1 hok) ?_
  have hcl := s_impl_clone_int ls (by omega)
  have e0 : firstI (hitB W T cs ds ls 1) ls.length = oneI W T cs ds ls := rfl
  rw [e0]
  rcases one_cases W T cs ds ls with h | ⟨k, hk, he, hc, hz, ho, hob, hw⟩
  · simp [h]
    refine call_on hcl ?_
    simp [force1, force1B, h]
  have two := s_impl_Region_options W T cs ds ls k hok
  have three := s_impl_Region_lay W T cs ls k (wayI W T cs ds ls) hr e2 (optB_free hob)
  have ef : force1 W T cs ds ls = layI W T ls k (wayI W T cs ds ls) := by rw [force1, he, if_neg (by omega)]
  have eb : force1B W T cs ds ls = true := by rw [force1B, he]; exact decide_eq_true (by omega)
  rw [ef, eb, he]
  rw [ho] at two
  have hk0 : ¬ (k : Int) < 0 := by omega
  have hin : ints [wayI W T cs ds ls] = [.v (.int .i64 (wayI W T cs ds ls))] := rfl
  rw [hin] at two
  have hlay := layI_length W T ls k (wayI W T cs ds ls)
  have htk : (ints (layI W T ls k (wayI W T cs ds ls))).take ls.length = ints (layI W T ls k (wayI W T cs ds ls)) := List.take_of_length_le (by simp [hlay])
  simp [hk0]
  (repeat' first | assumption | apply And.intro) <;>
  · refine call_on two ?_
    simp
    (repeat' first | assumption | apply And.intro) <;>
    · refine call_on three ?_
      simp [hlay, htk]

/-- What ForceOne gives. -/
def forceL (W T : Int) (cs : List Bool) (ds ls : List Int) : List Int := if fairB W T cs ds ls then force1 W T cs ds ls else []
def forceB (W T : Int) (cs : List Bool) (ds ls : List Int) : Bool := fairB W T cs ds ls && force1B W T cs ds ls

theorem s_spec_ForceOne (W T : Int) (cs : List Bool) (ds ls : List Int) (hb : cs.length < 2 ^ 40) (hd : ds.length < 2 ^ 40) (hl : ls.length < 2 ^ 40) :
    SoundAt Tryz.prog n_spec_ForceOne [.agg [.v (.int .i64 W), .v (.int .i64 T), .sl 1 1 (bools cs)], .sl 1 1 (ints ds), .sl 1 1 (ints ls)] (.tup [.os 1 (ints (forceL W T cs ds ls)), .v (.bool (forceB W T cs ds ls))]) [.bot, .bot, .bot] := by
  refine fn_ok (md := md0) (ms := [false, false, false]) k_spec_ForceOne (by simp) ?_
  simp [c_spec_ForceOne]
  refine call_on (s_spec_FairOk W T cs ds ls hb hd hl) ?_
  cases hf : fairB W T cs ds ls with
  | false => simp [forceL, forceB, hf]
  | true =>
  have hok := fairB_ok hf
  obtain ⟨hr, e1, e2, _⟩ := okB_W hok
  have hly : laysB W T cs ls = true := by
    simp only [okB, Bool.and_eq_true] at hok; exact hok.2.2
  have eL : forceL W T cs ds ls = force1 W T cs ds ls := by simp [forceL, hf]
  have eB : forceB W T cs ds ls = force1B W T cs ds ls := by simp [forceB, hf]
  rw [eL, eB]
  simp
  refine loop_by (fun m E H => ∃ i : Nat, m = ls.length - i ∧ i ≤ ls.length ∧ (∀ j : Nat, j < i → hitB W T cs ds ls 1 j = false) ∧ H = [some (.box [.v (.int .i64 W), .v (.int .i64 T), .sl 1 1 (bools cs)])] ∧
    E = [(1, .sl 1 1 (ints ds)), (2, .sl 1 1 (ints ls)), (3, .lp 0 0 0 0), (8, .v (.int .i64 i))]) ls.length ⟨0, by simp⟩ ?_
  rintro J hJ m E H ⟨i, rfl, hi, ha, rfl, rfl⟩
  by_cases h : i < ls.length
  case neg =>
    have : i = ls.length := by omega
    subst this
    have he : oneI W T cs ds ls = -1 := firstI_none ha
    simp [c_spec_ForceOne_L0, force1, force1B, he]
    constructor <;> omega
  have next : hitB W T cs ds ls 1 i = false → again J (ls.length - i) [(1, .sl 1 1 (ints ds)), (2, .sl 1 1 (ints ls)), (3, .lp 0 0 0 0), (8, .v (.int .i64 (i + 1)))]
      [some (.box [.v (.int .i64 W), .v (.int .i64 T), .sl 1 1 (bools cs)])] := by
    intro hx
    refine ⟨_, by omega, hJ _ _ _ ⟨i + 1, rfl, h, ?_, rfl, rfl⟩⟩
    intro j hj
    rcases Nat.lt_or_ge j i with h1 | h1
    · exact ha j h1
    · have : j = i := by omega
      subst this; exact hx
  have hit : hitB W T cs ds ls 1 i = true → oneI W T cs ds ls = i := fun hx => firstI_hit h hx ha
  have two := s_spec_OptionsOf W T cs ds ls i hb hd hl
  have ho : optsOf W T cs ds ls i = optsI W T cs ds ls i := by simp [optsOf, hf]
  rw [ho] at two
  have hop : (optsI W T cs ds ls i).length ≤ 4 := optTo_length ..
  simp [c_spec_ForceOne_L0, h]
  refine call_on two ?_
  by_cases hn : (optsI W T cs ds ls i).length = 1
  case neg =>
    have hn' : ¬ ((optsI W T cs ds ls i).length : Int) = 1 := by omega
    have hx : hitB W T cs ds ls 1 i = false := by simp [hitB, hn']
    simp [hn']
    exact ⟨by omega, next hx⟩
  have hbare : 0 ≤ (i : Int) ∧ (i : Int) < cs.length ∧ atb cs i = true ∧ ati ls i = 0 := by
    apply Decidable.byContradiction
    intro hx
    rw [optsI_bare W T cs ds ls i hx] at hn
    simp at hn
  have hx : hitB W T cs ds ls 1 i = true := by simp [hitB, hbare.2.2.1, hbare.2.2.2, hn]
  have he := hit hx
  rcases one_cases W T cs ds ls with h1 | ⟨k, hk, he2, hc, hz, hol, hob, hw⟩
  · omega
  have hki : k = i := by omega
  subst hki
  have three := s_spec_LayOne W T cs ls k (wayI W T cs ds ls) hr hly
  have ef : force1 W T cs ds ls = layI W T ls k (wayI W T cs ds ls) := by rw [force1, he, if_neg (by omega)]
  have eb : force1B W T cs ds ls = true := by rw [force1B, he]; exact decide_eq_true (by omega)
  have hfr := optB_free hob
  have elay : layOneL W T cs ls k (wayI W T cs ds ls) = layI W T ls k (wayI W T cs ds ls) := by simp [layOneL, hfr]
  rw [elay, hfr] at three
  rw [ef, eb]
  have hin : ints [wayI W T cs ds ls] = [.v (.int .i64 (wayI W T cs ds ls))] := rfl
  have hlay := layI_length W T ls k (wayI W T cs ds ls)
  have htk : (ints (layI W T ls k (wayI W T cs ds ls))).take ls.length = ints (layI W T ls k (wayI W T cs ds ls)) := List.take_of_length_le (by simp [hlay])
  simp [hol, hin]
  (repeat' first | assumption | apply And.intro) <;>
  · refine call_on three ?_
    simp [hlay, htk]

end Go.Proofs.Dev

namespace Go.Proofs.Dev
set_option linter.unusedSimpArgs false
set_option maxRecDepth 100000

def zeros (ls : List Int) : Nat := ls.countP (fun x => decide (x = 0))

theorem zeros_set_le {ls : List Int} {i : Nat} {v : Int} (hv : v ≠ 0) : zeros (ls.set i v) ≤ zeros ls := by
  by_cases h : i < ls.length
  · unfold zeros
    rw [List.countP_set h]
    simp [hv]
  · rw [List.set_eq_of_length_le (by omega)]; exact Nat.le_refl _
theorem zeros_set_lt {ls : List Int} {i : Nat} {v : Int} (h : i < ls.length) (hz : ati ls i = 0) (hv : v ≠ 0) : zeros (ls.set i v) < zeros ls := by
  have he : ls[i] = 0 := by simpa [ati, h] using hz
  have hp : 0 < zeros ls := by
    unfold zeros
    rw [List.countP_pos_iff]
    exact ⟨ls[i], List.getElem_mem h, by simp [he]⟩
  unfold zeros at hp ⊢
  rw [List.countP_set h]
  simp [hv, he]
  omega

def forceAllN (W T : Int) (cs : List Bool) (ds : List Int) : Nat → List Int → List Int
  | 0, ls => ls
  | n + 1, ls => if force1B W T cs ds ls then forceAllN W T cs ds n (force1 W T cs ds ls) else ls

theorem force1_zeros {W T : Int} {cs : List Bool} {ds ls : List Int} (h : force1B W T cs ds ls = true) : zeros (force1 W T cs ds ls) < zeros ls := by
  rcases one_cases W T cs ds ls with h1 | ⟨k, hk, he, hc, hz, hol, hob, hw⟩
  · simp [force1B, h1] at h
  · rw [force1, he, if_neg (by omega)]
    have hb : backI (wayI W T cs ds ls) ≠ 0 := by
      have := (backI_back hw.1 hw.2).2
      omega
    refine Nat.lt_of_le_of_lt (zeros_set_le hb) ?_
    exact zeros_set_lt (by omega) (by simpa using hz) (by omega)

theorem force1_fair {W T : Int} {cs : List Bool} {ds ls : List Int} (hf : fairB W T cs ds ls = true) : fairB W T cs ds (force1 W T cs ds ls) = true := by
  rcases one_cases W T cs ds ls with h1 | ⟨k, hk, he, hc, hz, hol, hob, hw⟩
  · simp [force1, h1, hf]
  · rw [force1, he, if_neg (by omega)]
    exact optB_fair (fairB_ok hf) hob

def forceAllI (W T : Int) (cs : List Bool) (ds ls : List Int) : List Int := forceAllN W T cs ds ls.length ls
def forceAllL (W T : Int) (cs : List Bool) (ds ls : List Int) : List Int := if fairB W T cs ds ls then forceAllI W T cs ds ls else []
theorem forceAllN_length (W T : Int) (cs : List Bool) (ds : List Int) : ∀ (n : Nat) (ls : List Int), (forceAllN W T cs ds n ls).length = ls.length
  | 0, ls => rfl
  | n + 1, ls => by
    rw [forceAllN]; split
    · rw [forceAllN_length, force1_length]
    · rfl
theorem zeros_le (ls : List Int) : zeros ls ≤ ls.length := List.countP_le_length

/-- One step of forcing, at a count that is enough. -/
theorem forceAllN_step {W T : Int} {cs : List Bool} {ds ls : List Int} {n : Nat} (hn : zeros ls ≤ n) :
    (force1B W T cs ds ls = false ∧ forceAllN W T cs ds n ls = ls) ∨ (∃ m, n = m + 1 ∧ force1B W T cs ds ls = true ∧ zeros (force1 W T cs ds ls) ≤ m ∧ forceAllN W T cs ds n ls = forceAllN W T cs ds m (force1 W T cs ds ls)) := by
  cases hb : force1B W T cs ds ls with
  | false =>
    left
    refine ⟨rfl, ?_⟩
    cases n with
    | zero => rfl
    | succ m => simp [forceAllN, hb]
  | true =>
    right
    have hz := force1_zeros hb
    cases n with
    | zero => omega
    | succ m => exact ⟨m, rfl, rfl, by omega, by simp [forceAllN, hb]⟩

theorem s_impl_Region_forceAll (W T : Int) (cs : List Bool) (ds ls : List Int) (hf : fairB W T cs ds ls = true) :
    SoundAt Tryz.prog n_impl_Region_forceAll [.agg [.v (.int .i64 W), .v (.int .i64 T), .sl 1 1 (bools cs)], .sl 1 1 (ints ds), .sl 1 1 (ints ls)] (.os 1 (ints (forceAllI W T cs ds ls))) [.bot, .bot, .bot] := by
  refine fn_ok (md := md0) (ms := [false, false, false]) k_impl_Region_forceAll (by simp) ?_
  obtain ⟨hr, e1, e2, _⟩ := okB_W (fairB_ok hf)
  have h36 := regB_len hr
  simp [c_impl_Region_forceAll]
  refine loop_by (fun m E H => ∃ l, zeros l ≤ m ∧ l.length = ls.length ∧ fairB W T cs ds l = true ∧ forceAllN W T cs ds m l = forceAllI W T cs ds ls ∧
    ((H = [some (.box [.v (.int .i64 W), .v (.int .i64 T), .sl 1 1 (bools cs)])] ∧ E = [(1, .sl 1 1 (ints ds)), (2, .sl 1 1 (ints l)), (3, .lp 0 0 0 0)]) ∨
     (H = [some (.arr 1 (ints l)), some (.box [.v (.int .i64 W), .v (.int .i64 T), .sl 1 1 (bools cs)])] ∧ E = [(1, .sl 1 1 (ints ds)), (2, .ls 1 0 0 ls.length), (3, .lp 0 1 0 0)]))) ls.length ⟨ls, zeros_le ls, rfl, hf, rfl, .inl (by simp)⟩ ?_
  rintro J hJ m E H ⟨l, hz, hll, hfl, hn, hEH⟩
  have one := s_impl_Region_force W T cs ds l (fairB_ok hfl)
  have hfl2 := force1_fair hfl
  have h1 := force1_length W T cs ds l
  have htk : (ints (force1 W T cs ds l)).take ls.length = ints (force1 W T cs ds l) := List.take_of_length_le (by simp [h1, hll])
  have htl : (ints l).take ls.length = ints l := List.take_of_length_le (by simp [hll])
  rcases hEH with ⟨rfl, rfl⟩ | ⟨rfl, rfl⟩ <;>
  · simp [c_impl_Region_forceAll_L0, htl]
    refine call_on one ?_
    rcases forceAllN_step (W := W) (T := T) (cs := cs) (ds := ds) hz with ⟨hbb, hx⟩ | ⟨k, rfl, hbb, hz2, hx⟩
    · have e9 : force1 W T cs ds l = l := by simp [force1B] at hbb; simp [force1, hbb]
      simp [hbb, h1, hll, htk, htl, e9, ← hn, hx]
    · simp [hbb, h1, hll, htk, htl]
      exact ⟨_, by omega, hJ _ _ _ ⟨force1 W T cs ds l, hz2, by omega, hfl2, by rw [← hx, hn], .inr ⟨rfl, rfl⟩⟩⟩

theorem s_spec_ForceAll (W T : Int) (cs : List Bool) (ds ls : List Int) (hb : cs.length < 2 ^ 40) (hd : ds.length < 2 ^ 40) (hl : ls.length < 2 ^ 40) :
    SoundAt Tryz.prog n_spec_ForceAll [.agg [.v (.int .i64 W), .v (.int .i64 T), .sl 1 1 (bools cs)], .sl 1 1 (ints ds), .sl 1 1 (ints ls)] (.os 1 (ints (forceAllL W T cs ds ls))) [.bot, .bot, .bot] := by
  refine fn_ok (md := md0) (ms := [false, false, false]) k_spec_ForceAll (by simp) ?_
  simp [c_spec_ForceAll]
  refine call_on (s_spec_FairOk W T cs ds ls hb hd hl) ?_
  cases hf : fairB W T cs ds ls with
  | false => simp [forceAllL, hf]
  | true =>
  simp
  refine ⟨by omega, ?_⟩
  refine loop_by (fun m E H => ∃ l, zeros l ≤ m ∧ l.length = ls.length ∧ fairB W T cs ds l = true ∧ forceAllN W T cs ds m l = forceAllI W T cs ds ls ∧ H = [some (.box [.v (.int .i64 W), .v (.int .i64 T), .sl 1 1 (bools cs)]), some (.arr 1 (ints l))] ∧
    E = [(1, .sl 1 1 (ints ds)), (3, .lp 0 0 0 0), (7, .ls 1 1 0 ls.length)]) ls.length ⟨ls, zeros_le ls, rfl, hf, rfl, by simp⟩ ?_
  rintro J hJ m E H ⟨l, hz, hll, hfl, hn, rfl, rfl⟩
  have one := s_spec_ForceOne W T cs ds l hb hd (by omega)
  have eL : forceL W T cs ds l = force1 W T cs ds l := by simp [forceL, hfl]
  have eB : forceB W T cs ds l = force1B W T cs ds l := by simp [forceB, hfl]
  rw [eL, eB] at one
  have hfl2 := force1_fair hfl
  have h1 := force1_length W T cs ds l
  have htk : (ints (force1 W T cs ds l)).take ls.length = ints (force1 W T cs ds l) := List.take_of_length_le (by simp [h1, hll])
  have htl : (ints l).take ls.length = ints l := List.take_of_length_le (by simp [hll])
  simp [c_spec_ForceAll_L0, htl]
  refine call_on one ?_
  rcases forceAllN_step (W := W) (T := T) (cs := cs) (ds := ds) hz with ⟨hbb, hx⟩ | ⟨k, rfl, hbb, hz2, hx⟩
  · simp [hbb, h1, hll, htk, htl, forceAllL, hf, ← hn, hx]
  · simp [hbb, h1, hll, htk, htl]
    exact ⟨_, by omega, hJ _ _ _ ⟨force1 W T cs ds l, hz2, by omega, hfl2, by rw [← hx, hn], rfl, rfl⟩⟩

end Go.Proofs.Dev

namespace Go.Proofs.Dev

-- 1 parameters, results [.t 2], 35 slots, modes [false]
@[simp] abbrev n_spec_BookValid : Nat := 46
abbrev c_spec_BookValid_L0_p0 : Plan := .al (.o 20 (.call 85 []) [.t 12, .t 14, .t 19]) ( .take (.o 21 (.un .not) [.t 20]) <| .done)
abbrev c_spec_BookValid_L0_p1 : Plan := .al (.l 16 15) ( .take (.o 18 (.iadr 1) [.t 16, .t 17]) <| .al (.l 19 18) c_spec_BookValid_L0_p0)
def c_spec_BookValid_L0 : ACode := .seq (.seq (.reg [.m 4 3, .f 5 5 1, .l 6 5, .n 7 6, .o 8 (.bin .lss 0) [.t 4, .t 7]]) <| .cond (.t 8) ( .skip) ( .exit 0)) <|
 .seq (.block 1 ( .seq (.draw ( .take (.f 11 0 1) <| .take (.f 13 3 1) <| .take (.f 15 5 1) <| .take (.m 17 3) <|
 .alt (.la 12 3 11) ( .alt (.l 14 13) c_spec_BookValid_L0_p1 <| .al (.l 16 15) ( .take (.o 18 (.iadr 1) [.t 16, .t 17]) <|
 .alt (.l 14 13) ( .al (.l 19 18) c_spec_BookValid_L0_p0) <|
 .al (.l 19 18) ( .al (.l 14 13) c_spec_BookValid_L0_p0))) <|
 .alt (.l 14 13) ( .alt (.la 12 3 11) c_spec_BookValid_L0_p1 <| .al (.l 16 15) ( .take (.o 18 (.iadr 1) [.t 16, .t 17]) <|
 .alt (.la 12 3 11) ( .al (.l 19 18) c_spec_BookValid_L0_p0) <|
 .al (.l 19 18) ( .al (.la 12 3 11) c_spec_BookValid_L0_p0))) <|
 .al (.l 16 15) ( .take (.o 18 (.iadr 1) [.t 16, .t 17]) <| .alt (.la 12 3 11) ( .alt (.l 14 13) ( .al (.l 19 18) c_spec_BookValid_L0_p0) <| .al (.l 19 18) ( .al (.l 14 13) c_spec_BookValid_L0_p0)) <| .alt (.l 14 13) ( .alt (.la 12 3 11) ( .al (.l 19 18) c_spec_BookValid_L0_p0) <| .al (.l 19 18) ( .al (.la 12 3 11) c_spec_BookValid_L0_p0)) <| .al (.l 19 18) ( .alt (.la 12 3 11) ( .al (.l 14 13) c_spec_BookValid_L0_p0) <| .al (.l 14 13) ( .al (.la 12 3 11) c_spec_BookValid_L0_p0))))) <| .cond (.t 21) ( .seq (.reg [.o 2 .mv [.kb false]]) <| .ret) ( .skip))) <| .reg [.m 9 3,
 .o 10 (.bin .add 0) [.t 9, .k 1], .m 3 10]

def c_spec_BookValid : ACode := .seq (.reg [.o 1 .box [.t 0], .o 2 .mv [.kb false]]) <| .seq (.seq (.reg [.o 3 .mv [.k 0]]) <| .block 0 ( .loop [] [1,
 3] c_spec_BookValid_L0)) <| .seq (.reg [.f 22 0 1, .la 23 3 22, .f 24 3 1, .l 25 24, .f 26 4 1, .l 27 26, .o 28 (.call 85 []) [.t 23, .t 25, .t 27], .m 29 28,
 .fg 30 5 1 29 true, .lg 31 30 29 true, .g 32 (.len false) [.t 31] 29 true, .g 33 (.bin .leq 0) [.t 32, .k 20] 29 true, .o 34 .pick [.t 29, .t 33, .kb false],
 .m 2 34]) <| .ret

theorem k_spec_BookValid : cFn Tryz.prog n_spec_BookValid 35 [.t 2] c_spec_BookValid := ⟨Tryz.f46, _, Tryz.func46, rfl, by kernel_rfl, by kernel_rfl, by kernel_rfl, by kernel_rfl⟩

-- 1 parameters, results [.t 3], 11 slots, modes [false]
@[simp] abbrev n_impl_BookValid_1 : Nat := 67

def c_impl_BookValid_1 : ACode := .seq (.reg [.o 3 .mv [.kb false]]) <| .seq (.reg [.f 4 0 1, .la 5 3 4, .f 6 3 1, .l 7 6, .m 8 0, .o 9 (.call 47 []) [.t 5,
 .t 7, .t 8], .o 10 (.un .not) [.t 9], .m 3 10]) <| .ret

theorem k_impl_BookValid_1 : cFn Tryz.prog n_impl_BookValid_1 11 [.t 3] c_impl_BookValid_1 := ⟨Tryz.f67, _, Tryz.func67, rfl, by kernel_rfl, by kernel_rfl, by kernel_rfl, by kernel_rfl⟩

-- 2 parameters, results [.t 4], 19 slots, modes [false, false]
@[simp] abbrev n_slices_IndexFunc_int_int : Nat := 126
def c_slices_IndexFunc_int_int_L0 : ACode := .seq (.reg [.o 9 (.bin .lss 0) [.t 8, .t 7]]) <| .seq (.cond (.t 9) ( .skip) ( .exit 0)) <|
 .seq (.block 1 ( .seq (.reg [.m 10 8, .m 5 10]) <| .seq (.reg [.m 11 1, .m 12 0, .m 13 5, .o 14 (.iadr 1) [.t 12, .t 13], .l 15 14, .o 16 (.callv []) [.t 11,
 .t 15]]) <| .cond (.t 16) ( .seq (.reg [.m 17 5, .m 4 17]) <| .ret) ( .skip))) <| .reg [.o 18 (.bin .add 0) [.t 8, .k 1], .m 8 18]

def c_slices_IndexFunc_int_int : ACode := .seq (.reg [.o 4 .mv [.k 0]]) <| .seq (.seq (.reg [.m 6 0, .n 7 6, .o 8 .mv [.k 0]]) <| .block 0 ( .loop [(0, 1)] [0,
 1, 7, 8] c_slices_IndexFunc_int_int_L0)) <| .seq (.reg [.o 4 .mv [.k (-1)]]) <| .ret

theorem k_slices_IndexFunc_int_int : cFn Tryz.prog n_slices_IndexFunc_int_int 19 [.t 4] c_slices_IndexFunc_int_int := ⟨Tryz.f126, _, Tryz.func126, rfl, by kernel_rfl, by kernel_rfl, by kernel_rfl, by kernel_rfl⟩

-- 2 parameters, results [.t 4], 9 slots, modes [false, false]
@[simp] abbrev n_slices_ContainsFunc_int_int : Nat := 66

def c_slices_ContainsFunc_int_int : ACode := .seq (.reg [.o 4 .mv [.kb false]]) <| .seq (.reg [.m 5 0, .m 6 1, .o 7 (.call 126 []) [.t 5, .t 6],
 .o 8 (.bin .geq 0) [.t 7, .k 0], .m 4 8]) <| .ret

theorem k_slices_ContainsFunc_int_int : cFn Tryz.prog n_slices_ContainsFunc_int_int 9 [.t 4] c_slices_ContainsFunc_int_int := ⟨Tryz.f66, _, Tryz.func66, rfl, by kernel_rfl, by kernel_rfl, by kernel_rfl, by kernel_rfl⟩

-- 1 parameters, results [.t 2], 23 slots, modes [false]
@[simp] abbrev n_impl_BookValid : Nat := 19

def c_impl_BookValid : ACode := .seq (.reg [.o 1 .box [.t 0], .o 2 .mv [.kb false]]) <| .seq (.reg [.f 3 0 1, .la 4 3 3, .f 5 3 1, .l 6 5, .f 7 4 1, .l 8 7,
 .o 9 (.call 47 []) [.t 4, .t 6, .t 8], .m 10 9, .fg 11 5 1 10 true, .lg 12 11 10 true, .g 13 (.len false) [.t 12] 10 true, .g 14 (.bin .leq 0) [.t 13,
 .k 20] 10 true, .o 15 .pick [.t 10, .t 14, .kb false], .m 16 15, .fg 17 5 1 16 true, .lg 18 17 16 true, .g 19 (.mkfn 67) [.t 1] 16 true,
 .g 20 (.call 66 []) [.t 18, .t 19] 16 true, .g 21 (.un .not) [.t 20] 16 true, .o 22 .pick [.t 16, .t 21, .kb false], .m 2 22]) <| .ret

theorem k_impl_BookValid : cFn Tryz.prog n_impl_BookValid 23 [.t 2] c_impl_BookValid := ⟨Tryz.f19, _, Tryz.func19, rfl, by kernel_rfl, by kernel_rfl, by kernel_rfl, by kernel_rfl⟩

-- 1 parameters, results [.t 2], 12 slots, modes [false]
@[simp] abbrev n_impl_BookSolved : Nat := 24

def c_impl_BookSolved : ACode := .seq (.reg [.o 1 .box [.t 0], .o 2 .mv [.kb false]]) <| .seq (.reg [.la 3 6 1, .o 4 (.call 19 []) [.t 3], .m 5 4,
 .fg 6 0 1 5 true, .g 7 (.load true 3) [.t 6] 5 true, .fg 8 4 1 5 true, .lg 9 8 5 true, .g 10 (.call 74 []) [.t 7, .t 9] 5 true, .o 11 .pick [.t 5, .t 10,
 .kb false], .m 2 11]) <| .ret

theorem k_impl_BookSolved : cFn Tryz.prog n_impl_BookSolved 12 [.t 2] c_impl_BookSolved := ⟨Tryz.f24, _, Tryz.func24, rfl, by kernel_rfl, by kernel_rfl, by kernel_rfl, by kernel_rfl⟩

end Go.Proofs.Dev

namespace Go.Proofs.Dev
set_option linter.unusedSimpArgs false
set_option maxRecDepth 100000

/-- Lists of numbers, as elements of a row: read alone, and owned. -/
def sls (c : Nat) (ps : List (List Int)) : List AV := ps.map fun p => .sl c 1 (ints p)
def oss (ps : List (List Int)) : List AV := ps.map fun p => .os 1 (ints p)
def pti (ps : List (List Int)) (i : Int) : List Int := ps.getD i.toNat []

@[simp] theorem sls_length (c : Nat) (ps : List (List Int)) : (sls c ps).length = ps.length := by simp [sls]
@[simp] theorem oss_length (ps : List (List Int)) : (oss ps).length = ps.length := by simp [oss]
@[simp] theorem sls_nil (c : Nat) : sls c [] = [] := (rfl)
@[simp] theorem oss_nil : oss [] = [] := (rfl)
@[simp] theorem sls_eq_nil (c : Nat) (ps : List (List Int)) : (sls c ps = []) = (ps = []) := by cases ps <;> simp [sls]
@[simp] theorem oss_eq_nil (ps : List (List Int)) : (oss ps = []) = (ps = []) := by cases ps <;> simp [oss]
theorem oss_append (a b : List (List Int)) : oss (a ++ b) = oss a ++ oss b := by simp [oss]
theorem oss_one (a : List Int) : oss [a] = [.os 1 (ints a)] := (rfl)
@[simp] theorem iadr_sls_ite {c d : Nat} {k : IntKind} {ps : List (List Int)} {i : Int} : aiadr 1 (.sl c 1 (sls d ps)) (.v (.int k i)) = if 0 ≤ i ∧ i < ps.length then some (.vp c [.sl d 1 (ints (pti ps i))] 0) else none := by
  by_cases h : 0 ≤ i ∧ i < ps.length
  · rw [if_pos h]
    have h1 : i.toNat < ps.length := by omega
    simp [aiadr, h.1, sls, pti, h1]
  · rw [if_neg h]
    by_cases h0 : 0 ≤ i
    · have : ¬ i.toNat < ps.length := by omega
      simp [aiadr, h0, sls, this]
    · simp [aiadr, h0]
@[simp] theorem vwL_sls (c d : Nat) : ∀ ps : List (List Int), vwL c (sls d ps) = sls c ps
  | [] => rfl
  | p :: ps => by
    show vw c (.sl d 1 (ints p)) :: vwL c (sls d ps) = .sl c 1 (ints p) :: sls c ps
    rw [vwL_sls c d ps]; simp
@[simp] theorem vwL_oss (c : Nat) : ∀ ps : List (List Int), vwL c (oss ps) = sls c ps
  | [] => rfl
  | p :: ps => by
    show vw c (.os 1 (ints p)) :: vwL c (oss ps) = .sl c 1 (ints p) :: sls c ps
    rw [vwL_oss c ps]; simp
@[simp] theorem okL_sls (c : Nat) : ∀ ps : List (List Int), okL (sls c ps) = true
  | [] => rfl
  | p :: ps => by show (okE (.sl c 1 (ints p)) && okL (sls c ps)) = true; rw [okL_sls c ps]; simp
@[simp] theorem okL_oss : ∀ ps : List (List Int), okL (oss ps) = true
  | [] => rfl
  | p :: ps => by show (okE (.os 1 (ints p)) && okL (oss ps)) = true; rw [okL_oss ps]; simp
theorem take_oss (n : Nat) (ps : List (List Int)) : (oss ps).take n = oss (ps.take n) := by simp [oss]
@[simp] theorem take_oss_all (ps : List (List Int)) : (oss ps).take ps.length = oss ps := by rw [take_oss, List.take_length]
theorem pti_get {ps : List (List Int)} {i : Nat} (h : i < ps.length) : pti ps i = ps[i] := by
  unfold pti; rw [Int.toNat_natCast, List.getD_eq_getElem?_getD, List.getElem?_eq_getElem h]; rfl
theorem pti_mem {ps : List (List Int)} {i : Nat} (h : i < ps.length) : pti ps i ∈ ps := by rw [pti_get h]; exact List.getElem_mem h
/-- A book's argument, and a book that is owned. -/
@[simp] def bkA (W T : Int) (cs : List Bool) (ds ls : List Int) (ps : List (List Int)) : AV := .agg [.v (.int .i64 W), .v (.int .i64 T), .sl 1 1 (bools cs), .sl 1 1 (ints ds), .sl 1 1 (ints ls), .sl 1 1 (sls 1 ps)]
@[simp] def bkO (W T : Int) (cs : List Bool) (ds ls : List Int) (ps : List (List Int)) : AV := .agg [.v (.int .i64 W), .v (.int .i64 T), .os 1 (bools cs), .os 1 (ints ds), .os 1 (ints ls), .os 1 (oss ps)]

end Go.Proofs.Dev
