/- Contracts of the functions of the program over slots and rows, each proved against the program itself; no condition beyond those that each theorem names. -/
import Derived.Test.YtlcoaglnegibkaaGreatR
import Derived.Test.YtlcoaglnegibkaaGreatN

set_option linter.unusedSimpArgs false
set_option linter.unusedVariables false

namespace Go.Proofs.Dev
set_option linter.unusedSimpArgs false
set_option maxRecDepth 100000

theorem s_spec_l1In_t {x lo hi : Int} (h : lo ≤ x ∧ x ≤ hi) : SoundAt Tryz.prog n_spec_l1In [.v (.int .i64 x), .v (.int .i64 lo), .v (.int .i64 hi)] (.v (.bool true)) [.bot, .bot, .bot] := by
  have := s_spec_l1In x lo hi
  rwa [decide_eq_true h] at this
theorem s_spec_l1In_f {x lo hi : Int} (h : ¬ (lo ≤ x ∧ x ≤ hi)) : SoundAt Tryz.prog n_spec_l1In [.v (.int .i64 x), .v (.int .i64 lo), .v (.int .i64 hi)] (.v (.bool false)) [.bot, .bot, .bot] := by
  have := s_spec_l1In x lo hi
  rwa [decide_eq_false h] at this

theorem s_impl_Region_has (W T : Int) (cs : List Bool) (cell : Int) (hb : cs.length < 2 ^ 40) :
    SoundAt Tryz.prog n_impl_Region_has [.agg [.v (.int .i64 W), .v (.int .i64 T), .sl 1 1 (bools cs)], .v (.int .i64 cell)] (.v (.bool (decide (0 ≤ cell ∧ cell < cs.length)))) [.bot, .bot] := by
  refine fn_ok (md := md0) (ms := [false, false]) k_impl_Region_has (by simp) ?_
  simp [c_impl_Region_has]
  refine ⟨by omega, ?_⟩
  by_cases h : 0 ≤ cell ∧ cell < cs.length
  · refine call_on (s_impl_in_t (x := cell) (lo := 0) (hi := cs.length - 1) (by omega)) ?_
    simp [h]
  · refine call_on (s_impl_in_f (x := cell) (lo := 0) (hi := cs.length - 1) (by omega)) ?_
    simp; omega

theorem s_impl_Region_bare (W T : Int) (cs : List Bool) (ls : List Int) (cell : Int) (hb : cs.length < 2 ^ 40) (hl : ls.length = cs.length) :
    SoundAt Tryz.prog n_impl_Region_bare [.agg [.v (.int .i64 W), .v (.int .i64 T), .sl 1 1 (bools cs)], .sl 1 1 (ints ls), .v (.int .i64 cell)] (.v (.bool (decide (0 ≤ cell ∧ cell < cs.length ∧ atb cs cell = true ∧ ati ls cell = 0)))) [.bot, .bot, .bot] := by
  refine fn_ok (md := md0) (ms := [false, false, false]) k_impl_Region_bare (by simp) ?_
  simp [c_impl_Region_bare]
  refine call_on (s_impl_Region_has W T cs cell hb) ?_
  by_cases h : 0 ≤ cell ∧ cell < cs.length
  · cases hc : atb cs cell with
    | false => simp [h, hc]
    | true =>
      simp [h, hc, hl]
      by_cases z : ati ls cell = 0 <;> simp [z]
  · have h' : ¬ (0 ≤ cell ∧ cell < cs.length ∧ atb cs cell = true ∧ ati ls cell = 0) := fun x => h ⟨x.1, x.2.1⟩
    have hx : (decide (0 ≤ cell) && decide (cell < cs.length)) = false := by simp; omega
    simp [hx]
    omega

theorem s_impl_Region_free (W T : Int) (cs : List Bool) (ls : List Int) (cell way : Int) (hr : regB W T cs = true) (hl : ls.length = cs.length) :
    SoundAt Tryz.prog n_impl_Region_free [.agg [.v (.int .i64 W), .v (.int .i64 T), .sl 1 1 (bools cs)], .sl 1 1 (ints ls), .v (.int .i64 cell), .v (.int .i64 way)] (.v (.bool (freeB W T cs ls cell way))) [.bot, .bot, .bot, .bot] := by
  refine fn_ok (md := md0) (ms := [false, false, false, false]) k_impl_Region_free (by simp) ?_
  have h36 := regB_len hr
  obtain ⟨w1, w2, t1, t2, l1, _⟩ := regB_W hr
  simp [c_impl_Region_free]
  refine call_on (s_impl_Region_has W T cs cell (by omega)) ?_
  by_cases h : 0 ≤ cell ∧ cell < cs.length
  case neg =>
    have hx : (decide (0 ≤ cell) && decide (cell < cs.length)) = false := by simp; omega
    have hf : freeB W T cs ls cell way = false := decide_eq_false (fun x => h ⟨x.1, x.2.1⟩)
    simp [hx, hf]
  simp [h]
  refine call_on (s_impl_Region_step W T cs cell way hr h.1 h.2) ?_
  have hst := stepI_range (T := T) (way := way) w1 h.1 (by omega)
  unfold freeB
  generalize stepI W T cell way = to at *
  rcases hst with rfl | ⟨h3, h4, h5, h6⟩
  · simp
  have h7 : to < cs.length := by omega
  cases hc : atb cs cell with
  | false => simp [h, h3, hc]
  | true =>
  cases ht : atb cs to with
  | false => simp [h, h3, h7, hc, ht]
  | true =>
  simp [h, h3, h7, hc, ht, hl]
  by_cases z : ati ls cell = 0
  · by_cases z2 : ati ls to = 0 <;> simp [z, z2, h3, h7, hl]
  · simp [z]

theorem s_impl_Region_lay (W T : Int) (cs : List Bool) (ls : List Int) (cell way : Int) (hr : regB W T cs = true) (hl : ls.length = cs.length) (hf : freeB W T cs ls cell way = true) :
    SoundAt Tryz.prog n_impl_Region_lay [.agg [.v (.int .i64 W), .v (.int .i64 T), .sl 1 1 (bools cs)], .sl 1 1 (ints ls), .v (.int .i64 cell), .v (.int .i64 way)] (.os 1 (ints (layI W T ls cell way))) [.bot, .bot, .bot, .bot] := by
  refine fn_ok (md := md0) (ms := [false, false, false, false]) k_impl_Region_lay (by simp) ?_
  have h36 := regB_len hr
  obtain ⟨w1, w2, t1, t2, l1, _⟩ := regB_W hr
  simp only [freeB, decide_eq_true_eq] at hf
  obtain ⟨f0, f1, f2, _⟩ := hf
  obtain ⟨b1, b2, b3, b4, b5⟩ := step_back (T := T) w1 f0 (by omega) f2
  simp [c_impl_Region_lay]
  refine call_on (s_impl_clone_int ls (by omega)) ?_
  simp
  refine call_on (s_impl_Region_step W T cs cell way hr f0 f1) ?_
  simp
  refine call_on (s_impl_back way (by omega) (by omega)) ?_
  have e1 : (ints ls).set cell.toNat (.v (.int .i64 way)) = ints (ls.set cell.toNat way) := ints_set _ _ _
  have e2 : (ints (ls.set cell.toNat way)).set (stepI W T cell way).toNat (.v (.int .i64 (backI way))) = ints (layI W T ls cell way) := by rw [ints_set]; rfl
  have g1 : cell < ls.length := by omega
  have g2 : stepI W T cell way < ls.length := by omega
  have g3 : cell.toNat < ls.length := by omega
  have g4 : (stepI W T cell way).toNat < ls.length := by omega
  have ht : (layI W T ls cell way).length = ls.length := layI_length W T ls cell way
  have hk : (ints (layI W T ls cell way)).take ls.length = ints (layI W T ls cell way) := List.take_of_length_le (by simp [ht])
  simp [f0, f2, g1, g2, g3, g4, e1, e2, ht, hk]

end Go.Proofs.Dev

namespace Go.Proofs.Dev
set_option linter.unusedSimpArgs false
set_option maxRecDepth 100000

/-- A domino may be laid, and what is laid then is fair. -/
def optB (W T : Int) (cs : List Bool) (ds ls : List Int) (cell way : Int) : Bool := freeB W T cs ls cell way && onceB (pairsI W T ds (layI W T ls cell way))
def optTo (W T : Int) (cs : List Bool) (ds ls : List Int) (cell : Int) (n : Nat) : List Int := (List.range n).flatMap fun k : Nat => if optB W T cs ds ls cell (k + 1) then [(k : Int) + 1] else []
def optsI (W T : Int) (cs : List Bool) (ds ls : List Int) (cell : Int) : List Int := optTo W T cs ds ls cell 4

theorem optTo_succ (W T : Int) (cs : List Bool) (ds ls : List Int) (cell : Int) (n : Nat) : optTo W T cs ds ls cell (n + 1) = optTo W T cs ds ls cell n ++ if optB W T cs ds ls cell (n + 1) then [(n : Int) + 1] else [] := by
  simp [optTo, List.range_succ]
theorem optTo_length (W T : Int) (cs : List Bool) (ds ls : List Int) (cell : Int) : ∀ n, (optTo W T cs ds ls cell n).length ≤ n
  | 0 => by simp [optTo]
  | n + 1 => by
    have := optTo_length W T cs ds ls cell n
    rw [optTo_succ]; split <;> simp <;> omega

theorem okB_lay {W T : Int} {cs : List Bool} {ds ls : List Int} {cell way : Int} (h : okB W T cs ds ls = true) (hf : freeB W T cs ls cell way = true) : okB W T cs ds (layI W T ls cell way) = true := by
  have h' := h
  simp only [okB, Bool.and_eq_true] at h' ⊢
  exact ⟨h'.1, h'.2.1, lay_ok h'.1 h'.2.2 hf⟩

theorem s_impl_Region_options (W T : Int) (cs : List Bool) (ds ls : List Int) (cell : Int) (hok : okB W T cs ds ls = true) :
    SoundAt Tryz.prog n_impl_Region_options [.agg [.v (.int .i64 W), .v (.int .i64 T), .sl 1 1 (bools cs)], .sl 1 1 (ints ds), .sl 1 1 (ints ls), .v (.int .i64 cell)] (.os 1 (ints (optsI W T cs ds ls cell))) [.bot, .bot, .bot, .bot] := by
  refine fn_ok (md := md0) (ms := [false, false, false, false]) k_impl_Region_options (by simp) ?_
  obtain ⟨hr, e1, e2, _⟩ := okB_W hok
  have h36 := regB_len hr
  simp [c_impl_Region_options]
  refine loop_by (fun m E H => ∃ i : Nat, m = 4 - i ∧ i ≤ 4 ∧ H = [some (.box [.v (.int .i64 W), .v (.int .i64 T), .sl 1 1 (bools cs)]), some (.arr 1 (ints (optTo W T cs ds ls cell i)))] ∧
    E = [(1, .sl 1 1 (ints ds)), (2, .sl 1 1 (ints ls)), (3, .v (.int .i64 cell)), (4, .lp 0 0 0 0), (9, .ls 1 1 0 (optTo W T cs ds ls cell i).length), (10, .v (.int .i64 (i + 1)))]) 4 ⟨0, by simp [optTo]⟩ ?_
  rintro J hJ m E H ⟨i, rfl, hi, rfl, rfl⟩
  have hlen := optTo_length W T cs ds ls cell i
  have hsuc := optTo_succ W T cs ds ls cell i
  by_cases h : i < 4
  case neg =>
    have : i = 4 := by omega
    subst this
    simp [c_impl_Region_options_L0]
    refine call_on (s_slices_Clip_int_int (optTo W T cs ds ls cell 4)) ?_
    simp [optsI]
  have h' : (i : Int) + 1 ≤ 4 := by omega
  have one := s_impl_Region_free W T cs ls cell (i + 1) hr e2
  have next : ∀ (x : List Int), optTo W T cs ds ls cell (i + 1) = optTo W T cs ds ls cell i ++ x → again J (4 - i) [(1, .sl 1 1 (ints ds)), (2, .sl 1 1 (ints ls)), (3, .v (.int .i64 cell)), (4, .lp 0 0 0 0), (9, .ls 1 1 0 ((optTo W T cs ds ls cell i).length + x.length)), (10, .v (.int .i64 (i + 1 + 1)))]
      [some (.box [.v (.int .i64 W), .v (.int .i64 T), .sl 1 1 (bools cs)]), some (.arr 1 (ints (optTo W T cs ds ls cell i) ++ ints x))] := by
    intro x hx
    refine ⟨_, by omega, hJ _ _ _ ⟨i + 1, rfl, h, ?_, ?_⟩⟩
    · rw [hx, ints_append]
    · rw [hx, List.length_append]; rfl
  simp [c_impl_Region_options_L0, h']
  refine call_on one ?_
  cases hf : freeB W T cs ls cell (i + 1) with
  | false =>
    have ho : optB W T cs ds ls cell (i + 1) = false := by simp [optB, hf]
    rw [if_neg (by simp [ho])] at hsuc
    have n := next [] hsuc
    simp at n
    simp
    exact ⟨by omega, n⟩
  | true =>
  have two := s_impl_Region_lay W T cs ls cell (i + 1) hr e2 hf
  have three := s_impl_Region_fair W T cs ds (layI W T ls cell (i + 1)) (okB_lay hok hf)
  have hl := layI_length W T ls cell (i + 1)
  have ht : (layI W T ls cell (i + 1)).take ls.length = layI W T ls cell (i + 1) := List.take_of_length_le (by omega)
  simp
  (repeat' first | assumption | apply And.intro) <;>
  · refine call_on two ?_
    simp [hl, take_ints, ht]
    (repeat' first | assumption | apply And.intro) <;>
    · refine call_on three ?_
      cases ho : onceB (pairsI W T ds (layI W T ls cell (i + 1))) with
      | false =>
        have ho : optB W T cs ds ls cell (i + 1) = false := by simp [optB, ho]
        rw [if_neg (by simp [ho])] at hsuc
        have n := next [] hsuc
        simp at n
        simp [hl, take_ints, ht]
        exact ⟨by omega, n⟩
      | true =>
        have ho : optB W T cs ds ls cell (i + 1) = true := by simp [optB, ho, hf]
        rw [if_pos ho] at hsuc
        have n := next _ hsuc
        simp at n
        simp [hl, take_ints, ht]
        exact ⟨by omega, by omega, n⟩

theorem s_spec_StepTo (W T : Int) (cs : List Bool) (cell way : Int) (hr : regB W T cs = true) :
    SoundAt Tryz.prog n_spec_StepTo [.agg [.v (.int .i64 W), .v (.int .i64 T), .sl 1 1 (bools cs)], .v (.int .i64 cell), .v (.int .i64 way)] (.v (.int .i64 (if 0 ≤ cell ∧ cell < cs.length ∧ 1 ≤ way ∧ way ≤ 4 then stepI W T cell way else -1))) [.bot, .bot, .bot] := by
  refine fn_ok (md := md0) (ms := [false, false, false]) k_spec_StepTo (by simp) ?_
  have h36 := regB_len hr
  simp [c_spec_StepTo]
  refine call_on (s_spec_RegionValid W T cs (by omega)) ?_
  simp [hr]
  refine ⟨by omega, ?_⟩
  by_cases h : 0 ≤ cell ∧ cell < cs.length
  case neg =>
    refine call_on (s_spec_l1In_f (x := cell) (lo := 0) (hi := cs.length - 1) (by omega)) ?_
    rw [if_neg (fun x => h ⟨x.1, x.2.1⟩)]
    simp
  refine call_on (s_spec_l1In_t (x := cell) (lo := 0) (hi := cs.length - 1) (by omega)) ?_
  simp
  by_cases hw : 1 ≤ way ∧ way ≤ 4
  case neg =>
    refine call_on (s_spec_l1In_f hw) ?_
    rw [if_neg (fun x => hw x.2.2)]
    simp
  refine call_on (s_spec_l1In_t hw) ?_
  simp
  refine call_on (s_spec_l2Step W T cs cell way hr h.1 h.2) ?_
  simp [h, hw]

/-- What LayOne gives. -/
def layOneL (W T : Int) (cs : List Bool) (ls : List Int) (cell way : Int) : List Int := if freeB W T cs ls cell way then layI W T ls cell way else ls

theorem s_spec_LayOne (W T : Int) (cs : List Bool) (ls : List Int) (cell way : Int) (hr : regB W T cs = true) (hy : laysB W T cs ls = true) :
    SoundAt Tryz.prog n_spec_LayOne [.agg [.v (.int .i64 W), .v (.int .i64 T), .sl 1 1 (bools cs)], .sl 1 1 (ints ls), .v (.int .i64 cell), .v (.int .i64 way)]
      (.tup [.os 1 (ints (layOneL W T cs ls cell way)), .v (.bool (freeB W T cs ls cell way))]) [.bot, .bot, .bot, .bot] := by
  refine fn_ok (md := md0) (ms := [false, false, false, false]) k_spec_LayOne (by simp) ?_
  have h36 := regB_len hr
  obtain ⟨w1, w2, t1, t2, l1, _⟩ := regB_W hr
  have hl : ls.length = cs.length := by simp only [laysB, Bool.and_eq_true, decide_eq_true_eq] at hy; exact hy.1
  simp [c_spec_LayOne]
  refine call_on (s_spec_LaidOk W T cs ls (by omega) (by omega)) ?_
  simp [hr, hy]
  refine ⟨by omega, ?_⟩
  refine call_on (s_spec_StepTo W T cs cell way hr) ?_
  by_cases h : 0 ≤ cell ∧ cell < cs.length
  case neg =>
    have hf : freeB W T cs ls cell way = false := decide_eq_false (fun x => h ⟨x.1, x.2.1⟩)
    rw [if_neg (fun x => h ⟨x.1, x.2.1⟩)]
    simp [hf, layOneL]
  have hst := stepI_range (T := T) (way := way) w1 h.1 (by omega)
  have e0 : (if 0 ≤ cell ∧ cell < cs.length ∧ 1 ≤ way ∧ way ≤ 4 then stepI W T cell way else -1) = stepI W T cell way := by
    rcases hst with hst | hst
    · split
      · rfl
      · exact hst.symm
    · rw [if_pos ⟨h.1, h.2, hst.2.2.1, hst.2.2.2⟩]
  rw [e0]
  by_cases hneg : stepI W T cell way < 0
  · have hf : freeB W T cs ls cell way = false := decide_eq_false (fun x => by omega)
    simp [hneg, hf, layOneL]
  obtain ⟨h3, h4, h5, h6⟩ : 0 ≤ stepI W T cell way ∧ stepI W T cell way < W * T ∧ 1 ≤ way ∧ way ≤ 4 := by
    rcases hst with hst | hst
    · omega
    · exact hst
  have hfree : freeB W T cs ls cell way = decide (atb cs cell = true ∧ atb cs (stepI W T cell way) = true ∧ ati ls cell = 0 ∧ ati ls (stepI W T cell way) = 0) := by
    simp [freeB, h, h3]
  have e2 : ((ints ls).set cell.toNat (.v (.int .i64 way))).set (stepI W T cell way).toNat (.v (.int .i64 (backI way))) = ints (layI W T ls cell way) := by rw [ints_set, ints_set]; rfl
  have ht : (layI W T ls cell way).length = ls.length := layI_length W T ls cell way
  have hk : (ints (layI W T ls cell way)).take ls.length = ints (layI W T ls cell way) := List.take_of_length_le (by simp [ht])
  have hk0 : (ints ls).take cs.length = ints ls := List.take_of_length_le (by simp [hl])
  have two := s_spec_l2Back way (by omega) (by omega)
  unfold layOneL
  rw [hfree]
  clear hfree e0 hst
  generalize stepI W T cell way = to at *
  have h7 : to < cs.length := by omega
  have h8 : ¬ to < 0 := hneg
  cases hc : atb cs cell with
  | false => simp [h, h8, hc]
  | true =>
  cases ht' : atb cs to with
  | false => simp [h, h3, h7, h8, hc, ht']
  | true =>
  by_cases z : ati ls cell = 0
  case neg => simp [h, h3, h7, h8, hc, ht', hl, z, hk0]
  by_cases z2 : ati ls to = 0
  case neg => simp [h, h3, h7, h8, hc, ht', hl, z, z2, hk0]
  have g3 : cell.toNat < ls.length := by omega
  have g4 : to.toNat < ls.length := by omega
  have g1 : cell < ls.length := by omega
  have g2 : to < ls.length := by omega
  simp [h, h3, h7, h8, hc, ht', g1, g2, g3, g4, z, z2]
  refine call_on two ?_
  simp [h, h3, h7, h8, g1, g2, g3, g4, e2, ht, hk]

end Go.Proofs.Dev

namespace Go.Proofs.Dev
set_option linter.unusedSimpArgs false
set_option maxRecDepth 100000

def optsOf (W T : Int) (cs : List Bool) (ds ls : List Int) (cell : Int) : List Int := if fairB W T cs ds ls then optsI W T cs ds ls cell else []

theorem layOne_length (W T : Int) (cs : List Bool) (ls : List Int) (cell way : Int) : (layOneL W T cs ls cell way).length = ls.length := by
  unfold layOneL; split
  · exact layI_length ..
  · rfl

theorem s_spec_OptionsOf (W T : Int) (cs : List Bool) (ds ls : List Int) (cell : Int) (hb : cs.length < 2 ^ 40) (hd : ds.length < 2 ^ 40) (hl : ls.length < 2 ^ 40) :
    SoundAt Tryz.prog n_spec_OptionsOf [.agg [.v (.int .i64 W), .v (.int .i64 T), .sl 1 1 (bools cs)], .sl 1 1 (ints ds), .sl 1 1 (ints ls), .v (.int .i64 cell)] (.os 1 (ints (optsOf W T cs ds ls cell))) [.bot, .bot, .bot, .bot] := by
  refine fn_ok (md := md0) (ms := [false, false, false, false]) k_spec_OptionsOf (by simp) ?_
  simp [c_spec_OptionsOf]
  have one := s_spec_FairOk W T cs ds ls hb hd hl
  refine loop_by (fun m E H => ∃ i : Nat, m = 4 - i ∧ i ≤ 4 ∧ (i = 0 ∨ fairB W T cs ds ls = true) ∧ H = [some (.box [.v (.int .i64 W), .v (.int .i64 T), .sl 1 1 (bools cs)]), some (.arr 1 (ints (optTo W T cs ds ls cell i)))] ∧
    E = [(1, .sl 1 1 (ints ds)), (2, .sl 1 1 (ints ls)), (3, .v (.int .i64 cell)), (4, .lp 0 0 0 0), (9, .ls 1 1 0 (optTo W T cs ds ls cell i).length), (10, .v (.int .i64 (i + 1)))]) 4 ⟨0, by simp [optTo]⟩ ?_
  rintro J hJ m E H ⟨i, rfl, hi, hf0, rfl, rfl⟩
  have hlen := optTo_length W T cs ds ls cell i
  have hsuc := optTo_succ W T cs ds ls cell i
  by_cases h : i < 4
  case neg =>
    have : i = 4 := by omega
    subst this
    have hf : fairB W T cs ds ls = true := by rcases hf0 with h0 | h0; omega; exact h0
    simp [c_spec_OptionsOf_L0, optsOf, hf, optsI]
  have h' : (i : Int) + 1 ≤ 4 := by omega
  simp [c_spec_OptionsOf_L0, h']
  refine call_on one ?_
  cases hf : fairB W T cs ds ls with
  | false =>
    have : i = 0 := by rcases hf0 with h0 | h0; exact h0; rw [hf] at h0; cases h0
    subst this
    simp [optsOf, hf, optTo]
  | true =>
  have hok := fairB_ok hf
  obtain ⟨hr, e1, e2, hy⟩ := okB_W hok
  have h36 := regB_len hr
  have next : ∀ (x : List Int), optTo W T cs ds ls cell (i + 1) = optTo W T cs ds ls cell i ++ x → again J (4 - i) [(1, .sl 1 1 (ints ds)), (2, .sl 1 1 (ints ls)), (3, .v (.int .i64 cell)), (4, .lp 0 0 0 0), (9, .ls 1 1 0 ((optTo W T cs ds ls cell i).length + x.length)), (10, .v (.int .i64 (i + 1 + 1)))]
      [some (.box [.v (.int .i64 W), .v (.int .i64 T), .sl 1 1 (bools cs)]), some (.arr 1 (ints (optTo W T cs ds ls cell i) ++ ints x))] := by
    intro x hx
    refine ⟨_, by omega, hJ _ _ _ ⟨i + 1, rfl, h, .inr hf, ?_, ?_⟩⟩
    · rw [hx, ints_append]
    · rw [hx, List.length_append]; rfl
  have hll := layOne_length W T cs ls cell (i + 1)
  have hly : laysB W T cs ls = true := by
    simp only [okB, Bool.and_eq_true] at hok; exact hok.2.2
  have two := s_spec_LayOne W T cs ls cell (i + 1) hr hly
  have three := s_spec_FairOk W T cs ds (layOneL W T cs ls cell (i + 1)) hb hd (by omega)
  have ht : (layOneL W T cs ls cell (i + 1)).take ls.length = layOneL W T cs ls cell (i + 1) := List.take_of_length_le (by omega)
  simp
  refine call_on two ?_
  simp [hll, take_ints, ht]
  cases hfr : freeB W T cs ls cell (i + 1) with
  | false =>
    have ho : optB W T cs ds ls cell (i + 1) = false := by simp [optB, hfr]
    rw [if_neg (by simp [ho])] at hsuc
    have n := next [] hsuc
    simp at n
    simp
    exact ⟨by omega, n⟩
  | true =>
  simp
  have e3 : fairB W T cs ds (layOneL W T cs ls cell (i + 1)) = optB W T cs ds ls cell (i + 1) := by
    simp [layOneL, hfr, fairB, optB, okB_lay hok hfr]
  refine call_on three ?_
  rw [e3]
  cases ho : optB W T cs ds ls cell (i + 1) with
  | false =>
    rw [if_neg (by simp [ho])] at hsuc
    have n := next [] hsuc
    simp at n
    simp [hll, take_ints, ht]
    exact ⟨by omega, n⟩
  | true =>
    rw [if_pos ho] at hsuc
    have n := next _ hsuc
    simp at n
    simp [hll, take_ints, ht]
    exact ⟨by omega, by omega, n⟩

theorem optsI_bare (W T : Int) (cs : List Bool) (ds ls : List Int) (cell : Int) (h : ¬ (0 ≤ cell ∧ cell < cs.length ∧ atb cs cell = true ∧ ati ls cell = 0)) : optsI W T cs ds ls cell = [] := by
  have hf : ∀ way, optB W T cs ds ls cell way = false := by
    intro way
    have : freeB W T cs ls cell way = false := decide_eq_false (fun x => h ⟨x.1, x.2.1, x.2.2.2.1, x.2.2.2.2.2.1⟩)
    simp [optB, this]
  simp [optsI, optTo, hf]

end Go.Proofs.Dev
