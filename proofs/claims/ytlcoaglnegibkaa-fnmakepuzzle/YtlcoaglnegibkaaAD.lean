/- Contracts of the functions of the program over slots and rows, each proved against the program itself; no condition beyond those that each theorem names. -/
import Derived.Test.YtlcoaglnegibkaaAB
import Derived.Test.YtlcoaglnegibkaaAC
import Derived.Test.YtlcoaglnegibkaaZ

set_option linter.unusedSimpArgs false
set_option linter.unusedVariables false

namespace Go.Proofs.Dev
set_option linter.unusedSimpArgs false
set_option maxRecDepth 100000

theorem noVL_ints : ∀ xs : List Int, noVL (ints xs) = true
  | [] => by simp [noVL]
  | x :: xs => by show (noV (.v (.int .i64 x)) && noVL (ints xs)) = true; rw [noVL_ints xs]; simp [noV]
theorem noVL_oss : ∀ ps : List (List Int), noVL (oss ps) = true
  | [] => by simp [noVL]
  | p :: ps => by show (noV (.os 1 (ints p)) && noVL (oss ps)) = true; rw [noVL_oss ps]; simp [noV, noVL_ints]

theorem s_slices_Clip_ints (ps : List (List Int)) : SoundAt Try.prog n_slices_Clip_ints [.os 1 (oss ps)] (.os 1 (oss ps)) [.bot] := by
  refine fn_ok (md := md0) (ms := [false]) k_slices_Clip_ints (by simp) ?_
  simp [c_slices_Clip_ints]

theorem s_impl_Region_solutions0 (W T : Int) (cs : List Bool) (ds ls : List Int) (hok : okB W T cs ds ls = true) :
    SoundAt Try.prog n_impl_Region_solutions [.agg [.v (.int .i64 W), .v (.int .i64 T), .sl 0 1 (bools cs)], .sl 0 1 (ints ds), .sl 0 1 (ints ls)] (.os 1 (oss (keepT W T ds (allT W T cs cs.length ls)))) [.bot, .bot, .bot] := by
  refine fn_ok (md := md2) (ms := [false, false, false]) k_impl_Region_solutions (by simp) ?_
  have hok' := hok
  simp only [okB, Bool.and_eq_true] at hok'
  obtain ⟨hr, hd, hy⟩ := hok'
  have h36 := regB_len hr
  have hl := lays_len hy
  have hz : zeros ls ≤ cs.length := by have := zeros_le ls; omega
  have hpow : 2 ^ cs.length ≤ 2 ^ 36 := Nat.pow_le_pow_right (by omega) h36
  have each := s_impl_each W T cs ds hr hd cs.length ls [] hz hy (by simp only [List.length_nil, Nat.zero_add]; exact Nat.le_trans hpow (by decide))
  rw [oss_nil, List.nil_append] at each
  simp [c_impl_Region_solutions]
  (repeat' first | assumption | omega | apply And.intro) <;>
  · refine call_on (s_impl_clone_int ls (by omega)) ?_
    simp
    (repeat' first | assumption | omega | apply And.intro) <;>
    · refine call_on each ?_
      simp [c_impl_Region_solutions_T0]
      refine call_on (s_slices_Clip_ints (keepT W T ds (allT W T cs cs.length ls))) ?_
      simp

theorem s_impl_Region_solutions (W T : Int) (cs : List Bool) (ds ls : List Int) (hok : okB W T cs ds ls = true) :
    SoundAt Try.prog n_impl_Region_solutions [.agg [.v (.int .i64 W), .v (.int .i64 T), .sl 1 1 (bools cs)], .sl 1 1 (ints ds), .sl 1 1 (ints ls)] (.os 1 (oss (keepT W T ds (allT W T cs cs.length ls)))) [.bot, .bot, .bot] := by
  refine SoundAt.lift (n := 3) (fun C S us hr => noOL_ok _ S us rfl hr) (by simp [noV, noVL_oss]) ?_
  have h := s_impl_Region_solutions0 W T cs ds ls hok
  simpa [vwL, vw] using h

theorem keepT_sols {W T : Int} {cs : List Bool} {ds : List Int} (h : (regB W T cs && digsB cs ds) = true) : keepT W T ds (allT W T cs cs.length (noneL cs)) = solsI W T cs ds := by
  have hr : regB W T cs = true := by simp only [Bool.and_eq_true] at h; exact h.1
  rw [sols_fair h, tilesI, if_pos hr]; rfl

theorem s_impl_SolutionsAll (W T : Int) (cs : List Bool) (ds : List Int) (hb : cs.length < 2 ^ 40) (hd : ds.length < 2 ^ 40) :
    SoundAt Try.prog n_impl_SolutionsAll [.agg [.v (.int .i64 W), .v (.int .i64 T), .sl 1 1 (bools cs)], .sl 1 1 (ints ds)] (.os 1 (oss (solsI W T cs ds))) [.bot, .bot] := by
  refine fn_ok (md := md0) (ms := [false, false]) k_impl_SolutionsAll (by simp) ?_
  simp [c_impl_SolutionsAll]
  refine call_on (s_impl_PuzzleValid W T cs ds hb hd) ?_
  cases hv : (regB W T cs && digsB cs ds) with
  | false =>
    have e : solsI W T cs ds = [] := by rw [solsI, if_neg (by simp [hv])]
    simp [e]
  | true =>
  have hr : regB W T cs = true := by simp only [Bool.and_eq_true] at hv; exact hv.1
  have hdg : digsB cs ds = true := by simp only [Bool.and_eq_true] at hv; exact hv.2
  have hdl : ds.length = cs.length := by simp only [digsB, Bool.and_eq_true, decide_eq_true_eq] at hdg; exact hdg.1
  have sol := s_impl_Region_solutions W T cs ds (noneL cs) (by simp only [okB, hr, hdg, lays_none, Bool.and_self])
  rw [keepT_sols hv] at sol
  have en : ints (List.replicate ds.length 0) = ints (noneL cs) := by rw [hdl]; rfl
  simp [ints_rep]
  (repeat' first | assumption | omega | apply And.intro) <;>
  · rw [en]
    refine call_on sol ?_
    have htk : (ints (noneL cs)).take ds.length = ints (noneL cs) := List.take_of_length_le (by simp [noneL, hdl])
    have hnl : (noneL cs).length = ds.length := by simp [noneL, hdl]
    simp [htk, hnl]

/-- The first solution with the dominoes of a fair list. -/
def firstHas (W T : Int) (cs : List Bool) (ds ls : List Int) : Option (List Int) := if fairB W T cs ds ls then (solsI W T cs ds).find? (hasB ls) else none
def resF : Option (List Int) → AV
  | some x => .tup [.sl 0 1 (ints x), .v (.bool true)]
  | none => .tup [.os 1 [], .v (.bool false)]
def resO : Option (List Int) → AV
  | some x => .tup [.os 1 (ints x), .v (.bool true)]
  | none => .tup [.os 1 [], .v (.bool false)]

theorem sols_len {W T : Int} {cs : List Bool} {ds p : List Int} (h : p ∈ solsI W T cs ds) : p.length = cs.length := by
  unfold solsI at h
  split at h
  · exact tiles_mem (List.mem_filter.1 h).1
  · cases h

theorem sols_length {W T : Int} {cs : List Bool} {ds : List Int} : (solsI W T cs ds).length ≤ 68719476736 := by
  unfold solsI
  split
  · exact Nat.le_trans (List.length_filter_le _ _) tiles_length
  · simp

theorem find_pti {ps : List (List Int)} {p : List Int → Bool} {i : Nat} (h : i < ps.length) (ha : ∀ j : Nat, j < i → p (pti ps j) = false) (hp : p (pti ps i) = true) : ps.find? p = some (pti ps i) := by
  rw [List.find?_eq_some_iff_getElem]
  refine ⟨hp, i, h, (pti_get h).symm, fun j hj => ?_⟩
  have h2 := ha j hj
  rw [pti_get (by omega)] at h2
  simp [h2]
theorem find_none {ps : List (List Int)} {p : List Int → Bool} (ha : ∀ j : Nat, j < ps.length → p (pti ps j) = false) : ps.find? p = none := by
  rw [List.find?_eq_none]
  intro x hx
  obtain ⟨j, hj, rfl⟩ := List.getElem_of_mem hx
  have h2 := ha j hj
  rw [pti_get hj] at h2
  simp [h2]

def hasTo (ls p : List Int) (n : Nat) : Bool := allB n fun k => decide (ati ls k = 0) || decide (ati p k = ati ls k)
theorem hasTo_succ (ls p : List Int) (n : Nat) : hasTo ls p (n + 1) = (hasTo ls p n && (decide (ati ls n = 0) || decide (ati p n = ati ls n))) := by simp [hasTo, allB_succ]
theorem hasTo_all (ls p : List Int) : hasTo ls p ls.length = hasB ls p := rfl

theorem s_spec_SolutionsAllF (W T : Int) (cs : List Bool) (ds : List Int) (hb : cs.length < 2 ^ 40) (hd : ds.length < 2 ^ 40) :
    SoundAt Try.prog n_spec_SolutionsAll [.agg [.v (.int .i64 W), .v (.int .i64 T), .sl 1 1 (bools cs)], .sl 1 1 (ints ds)] (.sl 0 1 (sls 0 (solsI W T cs ds))) [.bot, .bot] := by
  have h := SoundAt.frozen (n := 2) (fun C S us hr => noOL_ok _ S us rfl hr) (s_spec_SolutionsAll W T cs ds hb hd)
  simpa [vw] using h

theorem s_spec_SolveFirst (W T : Int) (cs : List Bool) (ds ls : List Int) (hb : cs.length < 2 ^ 40) (hd : ds.length < 2 ^ 40) (hl : ls.length < 2 ^ 40) :
    SoundAt Try.prog n_spec_SolveFirst [.agg [.v (.int .i64 W), .v (.int .i64 T), .sl 1 1 (bools cs)], .sl 1 1 (ints ds), .sl 1 1 (ints ls)] (resF (firstHas W T cs ds ls)) [.bot, .bot, .bot] := by
  refine fn_ok (md := md0) (ms := [false, false, false]) k_spec_SolveFirst (by simp) ?_
  simp [c_spec_SolveFirst]
  refine call_on (s_spec_SolutionsAllF W T cs ds hb hd) ?_
  simp
  refine loop_by (fun m E H => ∃ i : Nat, m = (solsI W T cs ds).length - i ∧ i ≤ (solsI W T cs ds).length ∧ (∀ j : Nat, j < i → hasB ls (pti (solsI W T cs ds) j) = false) ∧ H = [some (.box [.v (.int .i64 W), .v (.int .i64 T), .sl 1 1 (bools cs)])] ∧
    E = [(1, .sl 1 1 (ints ds)), (2, .sl 1 1 (ints ls)), (3, .lp 0 0 0 0), (8, .sl 0 1 (sls 0 (solsI W T cs ds))), (9, .v (.int .i64 i))]) (solsI W T cs ds).length ⟨0, by simp⟩ ?_
  rintro J hJ m E H ⟨i, rfl, hi, ha, rfl, rfl⟩
  by_cases h : i < (solsI W T cs ds).length
  case neg =>
    have e : firstHas W T cs ds ls = none := by
      unfold firstHas; split
      · exact find_none fun j hj => ha j (by omega)
      · rfl
    have hi' : i = (solsI W T cs ds).length := by omega
    simp [c_spec_SolveFirst_L1, e, resF, hi']
  simp [c_spec_SolveFirst_L1, h]
  refine call_on (s_spec_FairOk W T cs ds ls hb hd hl) ?_
  cases hf : fairB W T cs ds ls with
  | false =>
    have e : firstHas W T cs ds ls = none := by simp [firstHas, hf]
    simp [e, resF]
  | true =>
  obtain ⟨hr, e1, e2, _⟩ := okB_W (fairB_ok hf)
  have hpl : (pti (solsI W T cs ds) i).length = cs.length := sols_len (pti_mem h)
  simp
  refine loop_by (fun m E H => ∃ j : Nat, m = ls.length - j ∧ j ≤ ls.length ∧ H = [some (.box [.v (.int .i64 W), .v (.int .i64 T), .sl 1 1 (bools cs)])] ∧
    E = [(1, .sl 1 1 (ints ds)), (2, .sl 1 1 (ints ls)), (3, .lp 0 0 0 0), (8, .sl 0 1 (sls 0 (solsI W T cs ds))), (9, .v (.int .i64 i)), (10, .v (.bool (hasTo ls (pti (solsI W T cs ds) i) j))), (11, .v (.int .i64 j))]) ls.length ⟨0, by simp [hasTo, allB_zero]⟩ ?_
  rintro J2 hJ2 m2 E2 H2 ⟨j, rfl, hj, rfl, rfl⟩
  by_cases h2 : j < ls.length
  case neg =>
    have hj' : j = ls.length := by omega
    subst hj'
    rw [hasTo_all]
    cases hh : hasB ls (pti (solsI W T cs ds) i) with
    | true =>
      have e : firstHas W T cs ds ls = some (pti (solsI W T cs ds) i) := by
        unfold firstHas
        rw [if_pos hf]
        exact find_pti h ha hh
      simp [c_spec_SolveFirst_L0, e, resF, h]
    | false =>
      simp [c_spec_SolveFirst_L0]
      refine ⟨by have := sols_length (W := W) (T := T) (cs := cs) (ds := ds); omega, ?_⟩
      refine ⟨_, by omega, hJ _ _ _ ⟨i + 1, rfl, h, ?_, rfl, rfl⟩⟩
      intro k hk
      rcases Nat.lt_or_ge k i with h1 | h1
      · exact ha k h1
      · have : k = i := by omega
        subst this; exact hh
  have hs := hasTo_succ ls (pti (solsI W T cs ds) i) j
  have next : ∀ b : Bool, hasTo ls (pti (solsI W T cs ds) i) (j + 1) = b → again J2 (ls.length - j) [(1, .sl 1 1 (ints ds)), (2, .sl 1 1 (ints ls)), (3, .lp 0 0 0 0), (8, .sl 0 1 (sls 0 (solsI W T cs ds))), (9, .v (.int .i64 i)), (10, .v (.bool b)), (11, .v (.int .i64 (j + 1)))]
      [some (.box [.v (.int .i64 W), .v (.int .i64 T), .sl 1 1 (bools cs)])] := by
    rintro b rfl
    exact ⟨_, by omega, hJ2 _ _ _ ⟨j + 1, rfl, h2, rfl, rfl⟩⟩
  have hjp : j < (pti (solsI W T cs ds) i).length := by omega
  cases hh : hasTo ls (pti (solsI W T cs ds) i) j with
  | false =>
    have n := next false (by rw [hs, hh]; rfl)
    simp [c_spec_SolveFirst_L0, h2]
    exact ⟨by omega, n⟩
  | true =>
  by_cases z : ati ls j = 0
  · have n := next true (by rw [hs, hh, z]; rfl)
    simp [c_spec_SolveFirst_L0, h2, z]
    exact ⟨by omega, n⟩
  by_cases ez : ati (pti (solsI W T cs ds) i) j = ati ls j
  · have n := next true (by rw [hs, hh, ez]; simp)
    simp [c_spec_SolveFirst_L0, h2, z, h, hjp, ez]
    exact ⟨by omega, n⟩
  · have n := next (ati (pti (solsI W T cs ds) i) j == ati ls j) (by rw [hs, hh]; simp [z, ez])
    simp [c_spec_SolveFirst_L0, h2, z, h, hjp]
    exact ⟨by omega, n⟩

theorem s_impl_Region_solve (W T : Int) (cs : List Bool) (ds ls : List Int) (hok : okB W T cs ds ls = true) :
    SoundAt Try.prog n_impl_Region_solve [.agg [.v (.int .i64 W), .v (.int .i64 T), .sl 1 1 (bools cs)], .sl 1 1 (ints ds), .sl 1 1 (ints ls)] (resO ((solsI W T cs ds).find? (hasB ls))) [.bot, .bot, .bot] := by
  refine fn_ok (md := md0) (ms := [false, false, false]) k_impl_Region_solve (by simp) ?_
  simp [c_impl_Region_solve]
  refine call_on (s_impl_Region_solutions W T cs ds ls hok) ?_
  have e : keepT W T ds (allT W T cs cs.length ls) = (solsI W T cs ds).filter (hasB ls) := sols_has hok
  rw [← List.head?_filter, ← e]
  cases hp : keepT W T ds (allT W T cs cs.length ls) with
  | nil => simp [resO]
  | cons p ps =>
    have h0 : ¬ ((ps.length : Int) + 1 = 0) := by omega
    simp [resO, h0]
    refine awpT_take rfl rfl rfl ?_
    intro u
    simp [takeH]

theorem s_impl_SolveFirst (W T : Int) (cs : List Bool) (ds ls : List Int) (hb : cs.length < 2 ^ 40) (hd : ds.length < 2 ^ 40) (hl : ls.length < 2 ^ 40) :
    SoundAt Try.prog n_impl_SolveFirst [.agg [.v (.int .i64 W), .v (.int .i64 T), .sl 1 1 (bools cs)], .sl 1 1 (ints ds), .sl 1 1 (ints ls)] (resO (firstHas W T cs ds ls)) [.bot, .bot, .bot] := by
  refine fn_ok (md := md0) (ms := [false, false, false]) k_impl_SolveFirst (by simp) ?_
  simp [c_impl_SolveFirst]
  refine call_on (s_impl_FairOk W T cs ds ls hb hd hl) ?_
  cases hf : fairB W T cs ds ls with
  | false => simp [firstHas, hf, resO]
  | true =>
  simp
  refine call_on (s_impl_Region_solve W T cs ds ls (fairB_ok hf)) ?_
  have e : firstHas W T cs ds ls = (solsI W T cs ds).find? (hasB ls) := by simp [firstHas, hf]
  rw [e]
  cases hr : (solsI W T cs ds).find? (hasB ls) with
  | none => simp [resO]
  | some x => simp [resO]

end Go.Proofs.Dev

namespace Go.Proofs.Dev
set_option linter.unusedSimpArgs false
set_option maxRecDepth 100000

theorem firstHas_some {W T : Int} {cs : List Bool} {ds ls x : List Int} (h : firstHas W T cs ds ls = some x) : fairB W T cs ds ls = true ∧ x.length = cs.length := by
  unfold firstHas at h
  split at h
  · rename_i hf
    exact ⟨hf, sols_len (List.mem_of_find?_eq_some h)⟩
  · cases h

end Go.Proofs.Dev

namespace Go.Proofs.Dev
set_option linter.unusedSimpArgs false

theorem nodup_le : ∀ {l m : List Int}, l.Nodup → (∀ x ∈ l, x ∈ m) → l.length ≤ m.length
  | [], m, _, _ => by simp
  | x :: l, m, hn, hs => by
    rw [List.nodup_cons] at hn
    have hx : x ∈ m := hs x (by simp)
    have h1 := nodup_le (l := l) (m := m.erase x) hn.2 (fun y hy => by
      rw [List.mem_erase_of_ne (by intro e; subst e; exact hn.1 hy)]
      exact hs y (by simp [hy]))
    rw [List.length_erase_of_mem hx] at h1
    have : 0 < m.length := List.length_pos_of_mem hx
    simp only [List.length_cons]; omega

/-- What has the dominoes of a list has their pairs. -/
theorem pairs_sub {W T : Int} {ds a b : List Int} (hl : a.length = b.length) (h : ∀ k : Nat, k < a.length → ati a k = 0 ∨ ati b k = ati a k) : List.Sublist (pairsI W T ds a) (pairsI W T ds b) := by
  have : ∀ n, n ≤ a.length → List.Sublist (pairsTo W T ds a n) (pairsTo W T ds b n) := by
    intro n
    induction n with
    | zero => intro _; simp [pairsTo]
    | succ n ih =>
      intro hn
      rw [pairsTo_succ, pairsTo_succ]
      rcases h n (by omega) with h0 | h0
      · rw [if_neg (by omega)]
        exact (ih (by omega)).append (List.nil_sublist _)
      · rw [h0]
        exact (ih (by omega)).append (List.Sublist.refl _)
  have e := this a.length (Nat.le_refl _)
  unfold pairsI
  rw [← hl]; exact e

theorem once_sub {a b : List Int} (h : List.Sublist a b) (hb : onceB b = true) : onceB a = true := by
  simp only [onceB, decide_eq_true_eq] at hb ⊢
  exact h.nodup hb

theorem has_pairs {W T : Int} {ds a b : List Int} (hl : a.length = b.length) (h : hasB a b = true) : List.Sublist (pairsI W T ds a) (pairsI W T ds b) :=
  pairs_sub hl fun k hk => hasB_iff.1 h k hk

/-- A list without the domino on a cell. -/
def liftI (W T : Int) (ls : List Int) (cell : Int) : List Int := (ls.set (stepI W T cell (ati ls cell)).toNat 0).set cell.toNat 0
theorem liftI_length (W T : Int) (ls : List Int) (cell : Int) : (liftI W T ls cell).length = ls.length := by simp [liftI]

theorem lift_at {W T : Int} {cs : List Bool} {ls : List Int} {k : Nat} (hr : regB W T cs = true) (hy : laysB W T cs ls = true) (hk : k < ls.length) (hv : ati ls k ≠ 0) :
    ∃ t : Nat, stepI W T k (ati ls k) = t ∧ t < ls.length ∧ t ≠ k ∧ ∀ j : Nat, ati (liftI W T ls k) j = if j = k then 0 else if j = t then 0 else ati ls j := by
  obtain ⟨w1, w2, t1, t2, l1, _⟩ := regB_W hr
  have hl := lays_len hy
  obtain ⟨v1, v4, g3, g4, g5, g6⟩ := lays_at hy hk hv
  obtain ⟨_, _, _, b4, b5⟩ := step_back (W := W) (T := T) (k := k) (way := ati ls k) w1 (by omega) (by omega) g4
  refine ⟨(stepI W T k (ati ls k)).toNat, by omega, by omega, by omega, fun j => ?_⟩
  unfold liftI
  rw [ati_set (by simpa using hk), ati_set (by omega)]
  simp

theorem lift_ok {W T : Int} {cs : List Bool} {ls : List Int} {k : Nat} (hr : regB W T cs = true) (hy : laysB W T cs ls = true) (hk : k < ls.length) (hv : ati ls k ≠ 0) : laysB W T cs (liftI W T ls k) = true := by
  obtain ⟨w1, w2, t1, t2, l1, _⟩ := regB_W hr
  have hl := lays_len hy
  obtain ⟨t, e, ht, htk, hat⟩ := lift_at hr hy hk hv
  obtain ⟨v1, v4, g3, g4, g5, g6⟩ := lays_at hy hk hv
  have sb := step_back (W := W) (T := T) (k := k) (way := ati ls k) w1 (by omega) (by omega) g4
  rw [e] at g6 sb
  simp only [laysB, Bool.and_eq_true, decide_eq_true_eq, allB_iff, liftI_length]
  refine ⟨hl, fun j hj => ?_⟩
  simp only [layAt, decide_eq_true_eq]
  rw [hat j]
  by_cases e1 : j = k
  · rw [if_pos e1]; exact .inl rfl
  rw [if_neg e1]
  by_cases e2 : j = t
  · rw [if_pos e2]; exact .inl rfl
  rw [if_neg e2]
  by_cases e3 : ati ls j = 0
  · exact .inl e3
  right
  obtain ⟨u1, u4, q3, q4, q5, q6⟩ := lays_at hy hj e3
  have sj := step_back (W := W) (T := T) (k := j) (way := ati ls j) w1 (by omega) (by omega) q4
  obtain ⟨s, hs⟩ : ∃ s : Nat, stepI W T j (ati ls j) = s := ⟨(stepI W T j (ati ls j)).toNat, by omega⟩
  rw [hs] at q4 q5 q6 sj ⊢
  refine ⟨u1, u4, q3, q4, q5, ?_⟩
  rw [hat s]
  have n1 : s ≠ k := by
    intro h
    subst h
    have h2 := sj.1
    rw [← q6, e] at h2
    omega
  have n2 : s ≠ t := by
    intro h
    subst h
    have h2 := sj.1
    rw [← q6, g6, sb.1] at h2
    omega
  rw [if_neg n1, if_neg n2]; exact q6

theorem lift_has {W T : Int} {cs : List Bool} {ls : List Int} {k : Nat} (hr : regB W T cs = true) (hy : laysB W T cs ls = true) (hk : k < ls.length) (hv : ati ls k ≠ 0) : hasB (liftI W T ls k) ls = true := by
  obtain ⟨t, e, ht, htk, hat⟩ := lift_at hr hy hk hv
  rw [hasB_iff]
  intro j _
  rw [hat j]
  by_cases e1 : j = k
  · rw [if_pos e1]; exact .inl rfl
  rw [if_neg e1]
  by_cases e2 : j = t
  · rw [if_pos e2]; exact .inl rfl
  rw [if_neg e2]; exact .inr rfl

theorem fair_parts {W T : Int} {cs : List Bool} {ds ls : List Int} (h : fairB W T cs ds ls = true) : regB W T cs = true ∧ digsB cs ds = true ∧ laysB W T cs ls = true ∧ onceB (pairsI W T ds ls) = true := by
  simp only [fairB, okB, Bool.and_eq_true] at h
  exact ⟨h.1.1, h.1.2.1, h.1.2.2, h.2⟩
theorem fair_of {W T : Int} {cs : List Bool} {ds ls : List Int} (h1 : regB W T cs = true) (h2 : digsB cs ds = true) (h3 : laysB W T cs ls = true) (h4 : onceB (pairsI W T ds ls) = true) : fairB W T cs ds ls = true := by
  simp only [fairB, okB, Bool.and_eq_true]
  exact ⟨⟨h1, h2, h3⟩, h4⟩

/-- Fewer dominoes are fair, too. -/
theorem fair_lift {W T : Int} {cs : List Bool} {ds ls : List Int} {k : Nat} (h : fairB W T cs ds ls = true) (hk : k < ls.length) (hv : ati ls k ≠ 0) : fairB W T cs ds (liftI W T ls k) = true := by
  obtain ⟨h1, h2, h3, h4⟩ := fair_parts h
  exact fair_of h1 h2 (lift_ok h1 h3 hk hv) (once_sub (has_pairs (liftI_length ..) (lift_has h1 h3 hk hv)) h4)

theorem pairs_domN (W T : Int) (ds ls : List Int) : (pairsI W T ds ls).length = domN ls := by
  have : ∀ n, n ≤ ls.length → (pairsTo W T ds ls n).length = domN (ls.take n) := by
    intro n
    induction n with
    | zero => intro _; simp [pairsTo, domN]
    | succ n ih =>
      intro hn
      rw [pairsTo_succ, List.length_append, ih (by omega), domN_succ (by omega)]
      congr 1
      by_cases h : ati ls n = 1 ∨ ati ls n = 2
      · rw [if_pos h]
        have : isDom (ati ls n) = true := by simpa [isDom] using h
        simp [this]
      · rw [if_neg h]
        have : isDom (ati ls n) = false := by simpa [isDom] using h
        simp [this]
  have e := this ls.length (Nat.le_refl _)
  rw [List.take_length] at e
  exact e

def pairL : List Int := (List.range 7).flatMap fun a => (List.range' a (7 - a)).map fun b : Nat => 7 * (a : Int) + b

theorem pair_mem {a b : Int} (h1 : 0 ≤ a ∧ a ≤ 6) (h2 : 0 ≤ b ∧ b ≤ 6) : pairI a b ∈ pairL := by
  have : ∀ x < 7, ∀ y < 7, pairI (x : Nat) (y : Nat) ∈ pairL := by decide
  have h := this a.toNat (by omega) b.toNat (by omega)
  rw [show ((a.toNat : Nat) : Int) = a by omega, show ((b.toNat : Nat) : Int) = b by omega] at h
  exact h

theorem digs_at {cs : List Bool} {ds : List Int} (h : digsB cs ds = true) {k : Nat} (hk : k < cs.length) (hc : atb cs k = true) : 0 ≤ ati ds k ∧ ati ds k ≤ 6 := by
  simp only [digsB, Bool.and_eq_true, decide_eq_true_eq, allB_iff] at h
  have := h.2 k (by omega)
  simp only [digAt, hc, if_true, decide_eq_true_eq] at this
  exact this

theorem pairs_mem {W T : Int} {cs : List Bool} {ds ls : List Int} (hr : regB W T cs = true) (hd : digsB cs ds = true) (hy : laysB W T cs ls = true) : ∀ x ∈ pairsI W T ds ls, x ∈ pairL := by
  obtain ⟨w1, w2, t1, t2, l1, _⟩ := regB_W hr
  have hl := lays_len hy
  intro x hx
  simp only [pairsI, pairsTo, List.mem_flatMap, List.mem_range] at hx
  obtain ⟨k, hk, hx⟩ := hx
  split at hx
  · rename_i hw
    rw [List.mem_singleton] at hx
    subst hx
    obtain ⟨v1, v4, g3, g4, g5, g6⟩ := lays_at hy hk (by omega)
    have sb := step_back (W := W) (T := T) (k := k) (way := ati ls k) w1 (by omega) (by omega) g4
    obtain ⟨t, ht⟩ : ∃ t : Nat, stepI W T k (ati ls k) = t := ⟨(stepI W T k (ati ls k)).toNat, by omega⟩
    rw [ht] at g5 sb ⊢
    exact pair_mem (digs_at hd (by omega) g3) (digs_at hd (by omega) g5)
  · cases hx

/-- At most 28 dominoes are fair. -/
theorem fair_28 {W T : Int} {cs : List Bool} {ds ls : List Int} (h : fairB W T cs ds ls = true) : domN ls ≤ 28 := by
  obtain ⟨h1, h2, h3, h4⟩ := fair_parts h
  simp only [onceB, decide_eq_true_eq] at h4
  have := nodup_le h4 (pairs_mem h1 h2 h3)
  rw [pairs_domN] at this
  have e : pairL.length = 28 := by decide
  omega

/-! A domino more. -/
/-- A domino laid on a list that has none is fair, if it is so beside others. -/
theorem opt_bare {W T : Int} {cs : List Bool} {ds ls : List Int} {k : Nat} {way : Int} (hr : regB W T cs = true) (hl : ls.length = cs.length) (h : optB W T cs ds ls k way = true) : optB W T cs ds (noneL cs) k way = true := by
  simp only [optB, Bool.and_eq_true] at h ⊢
  obtain ⟨hf, ho⟩ := h
  have hf2 : freeB W T cs (noneL cs) k way = true := by
    simp only [freeB, decide_eq_true_eq] at hf ⊢
    obtain ⟨f0, f1, f2, f3, f4, f5, f6⟩ := hf
    exact ⟨f0, f1, f2, f3, f4, ati_none cs _, ati_none cs _⟩
  refine ⟨hf2, once_sub (pairs_sub (by simp [layI_length, hl, noneL]) fun j hj => ?_) ho⟩
  have hn : (noneL cs).length = cs.length := by simp [noneL]
  obtain ⟨t, e, t1, t2, t3, _, _, _, _, z1, z2, hat⟩ := free_facts hr hl hf
  obtain ⟨t', e', _, _, _, _, _, _, _, _, _, hat'⟩ := free_facts hr hn hf2
  have et : t' = t := by omega
  subst et
  rw [hat' j, hat j]
  by_cases e1 : j = t'
  · rw [if_pos e1, if_pos e1]; exact .inr rfl
  by_cases e2 : j = k
  · rw [if_neg e1, if_neg e1, if_pos e2, if_pos e2]; exact .inr rfl
  rw [if_neg e1, if_neg e2]
  exact .inl (ati_none cs _)

theorem optsI_filter (W T : Int) (cs : List Bool) (ds ls : List Int) (cell : Int) : optsI W T cs ds ls cell = [1, 2, 3, 4].filter (optB W T cs ds ls cell) := by
  simp only [optsI, optTo, List.range_succ, List.range_zero, List.nil_append, List.flatMap_append, List.flatMap_cons, List.flatMap_nil, List.append_nil, List.filter_cons, List.filter_nil]
  cases h1 : optB W T cs ds ls cell 1 <;> cases h2 : optB W T cs ds ls cell 2 <;> cases h3 : optB W T cs ds ls cell 3 <;> cases h4 : optB W T cs ds ls cell 4 <;> simp [h1, h2, h3, h4]

theorem opts_mem {W T : Int} {cs : List Bool} {ds ls : List Int} {cell x : Int} : x ∈ optsI W T cs ds ls cell ↔ optB W T cs ds ls cell x = true ∧ 1 ≤ x ∧ x ≤ 4 := by
  rw [optsI_filter, List.mem_filter]
  simp only [List.mem_cons, List.not_mem_nil, or_false]
  constructor
  · rintro ⟨h1, h2⟩; exact ⟨h2, by omega, by omega⟩
  · rintro ⟨h1, h2, h3⟩; exact ⟨by omega, h1⟩

theorem opts_asc (W T : Int) (cs : List Bool) (ds ls : List Int) (cell : Int) : (optsI W T cs ds ls cell).Pairwise (· < ·) := by
  rw [optsI_filter]
  exact List.Pairwise.sublist List.filter_sublist (by decide)

/-! Solutions. -/
theorem solved_parts {W T : Int} {cs : List Bool} {ds p : List Int} (h : solvedB W T cs ds p = true) : fairB W T cs ds p = true ∧ fullB cs p = true := by
  simpa only [solvedB, Bool.and_eq_true] using h

theorem full_at {cs : List Bool} {p : List Int} (h : fullB cs p = true) {k : Nat} (hk : k < cs.length) (hc : atb cs k = true) : ati p k ≠ 0 := by
  rw [fullB, allB_iff] at h
  have := h k hk
  simpa [fullAt, hc] using this

theorem full_bare {cs : List Bool} {p : List Int} (hl : p.length = cs.length) (h : fullB cs p = true) : bareI cs p < 0 := by
  rcases bare_cases cs p with h1 | ⟨k, hk, he, hc, hz⟩
  · omega
  · exact absurd hz (full_at h (by omega) hc)

/-- What solves the puzzle is one of the solutions. -/
theorem mem_sols {W T : Int} {cs : List Bool} {ds p : List Int} : p ∈ solsI W T cs ds ↔ solvedB W T cs ds p = true := by
  constructor
  · intro h
    unfold solsI at h
    split at h
    · exact (List.mem_filter.1 h).2
    · cases h
  · intro h
    obtain ⟨hf, hfull⟩ := solved_parts h
    obtain ⟨hr, hd, hy, ho⟩ := fair_parts hf
    have hl := lays_len hy
    have hz : zeros p ≤ cs.length := by have := zeros_le p; omega
    have hn : (noneL cs).length = cs.length := by simp [noneL]
    have hzn : zeros (noneL cs) ≤ cs.length := by have := zeros_le (noneL cs); omega
    have e := allT_filter hr cs.length (noneL cs) p cs.length hzn hz (lays_none W T cs) hy (hasB_iff.2 fun k _ => .inl (ati_none cs k))
    rw [allT_leaf _ (full_bare hl hfull)] at e
    have hm : p ∈ (allT W T cs cs.length (noneL cs)).filter (hasB p) := by rw [e]; simp
    unfold solsI
    rw [if_pos (by simp [hr, hd]), List.mem_filter]
    refine ⟨?_, h⟩
    rw [tilesI, if_pos hr]
    exact (List.mem_filter.1 hm).1

/-- A bare cell's domino in a solution is an option. -/
theorem opt_of_sol {W T : Int} {cs : List Bool} {ds ls p : List Int} {k : Nat} (hy : laysB W T cs ls = true) (hp : solvedB W T cs ds p = true) (hs : hasB ls p = true) (hk : k < cs.length) (hc : atb cs k = true) (hz : ati ls k = 0) :
    optB W T cs ds ls k (ati p k) = true ∧ 1 ≤ ati p k ∧ ati p k ≤ 4 ∧ hasB (layI W T ls k (ati p k)) p = true := by
  obtain ⟨hf, hfull⟩ := solved_parts hp
  obtain ⟨hr, hd, hyp, ho⟩ := fair_parts hf
  have hl := lays_len hy
  have hlp := lays_len hyp
  obtain ⟨w1, w2, t1, t2, l1, _⟩ := regB_W hr
  have hv := full_at hfull hk hc
  obtain ⟨v1, v4, g3, g4, g5, g6⟩ := lays_at hyp (k := k) (by omega) hv
  obtain ⟨v, hvv⟩ : ∃ v, ati p k = v := ⟨_, rfl⟩
  rw [hvv] at v1 v4 g4 g5 g6 hv ⊢
  have sb := step_back (W := W) (T := T) (k := k) (way := v) w1 (by omega) (by omega) g4
  obtain ⟨t, ht⟩ : ∃ t : Nat, stepI W T k v = t := ⟨(stepI W T k v).toNat, by omega⟩
  have hzt : ati ls t = 0 := by
    rcases hasB_iff.1 hs t (by omega) with h | h
    · exact h
    · exfalso
      rw [ht] at g6
      have := lays_back hr hy (k := k) (t := t) (way := v) (by omega) ht (by rw [← h]; exact g6)
      omega
  have hfree : freeB W T cs ls k v = true := by
    simp only [freeB, decide_eq_true_eq]
    exact ⟨by omega, by omega, g4, hc, g5, hz, by rw [ht]; exact hzt⟩
  have hh := lay_has hr hl hfree hs hvv g6
  refine ⟨?_, v1, v4, hh⟩
  simp only [optB, Bool.and_eq_true]
  exact ⟨hfree, once_sub (has_pairs (by rw [layI_length]; omega) hh) ho⟩

/-- What is dead has no solution. -/
theorem dead_none {W T : Int} {cs : List Bool} {ds ls : List Int} (h : deadB W T cs ds ls = true) : ∀ p, solvedB W T cs ds p = true → hasB ls p = false := by
  intro p hp
  simp only [deadB, Bool.and_eq_true, decide_eq_true_eq] at h
  obtain ⟨hf, hge⟩ := h
  obtain ⟨hr, hd, hy, ho⟩ := fair_parts hf
  have hl := lays_len hy
  cases hs : hasB ls p with
  | false => rfl
  | true =>
    exfalso
    rcases firstI_cases (hitB W T cs ds ls 0) ls.length with h1 | ⟨k, hk, hh, he⟩
    · omega
    simp only [hitB, Bool.and_eq_true, decide_eq_true_eq] at hh
    obtain ⟨⟨hc, hz⟩, hlen⟩ := hh
    obtain ⟨o1, o2, o3, _⟩ := opt_of_sol hy hp hs (by omega) hc hz
    have : ati p k ∈ optsI W T cs ds ls k := opts_mem.2 ⟨o1, o2, o3⟩
    have h0 : (optsI W T cs ds ls k).length = 0 := by omega
    rw [List.eq_nil_of_length_eq_zero h0] at this
    cases this

theorem firstHas_none {W T : Int} {cs : List Bool} {ds ls : List Int} (h : ∀ p, solvedB W T cs ds p = true → hasB ls p = false) : firstHas W T cs ds ls = none := by
  unfold firstHas
  split
  · rw [List.find?_eq_none]
    intro p hp
    rw [h p (mem_sols.1 hp)]; simp
  · rfl

theorem firstHas_sol {W T : Int} {cs : List Bool} {ds ls x : List Int} (h : firstHas W T cs ds ls = some x) : fairB W T cs ds ls = true ∧ solvedB W T cs ds x = true ∧ hasB ls x = true := by
  unfold firstHas at h
  split at h
  · rename_i hf
    exact ⟨hf, mem_sols.1 (List.mem_of_find?_eq_some h), List.find?_some h⟩
  · cases h

theorem solved_dead {W T : Int} {cs : List Bool} {ds ls : List Int} (h : solvedB W T cs ds ls = true) : deadB W T cs ds ls = false := by
  cases hd : deadB W T cs ds ls with
  | false => rfl
  | true =>
    have := dead_none hd ls h
    rw [hasB_refl] at this
    cases this

/-- Without dominoes the first solution is the first of all. -/
theorem firstHas_bare {W T : Int} {cs : List Bool} {ds p : List Int} {ps : List (List Int)} (h : solsI W T cs ds = p :: ps) : firstHas W T cs ds (noneL cs) = some p := by
  have hp : p ∈ solsI W T cs ds := by rw [h]; simp
  obtain ⟨hf, hfull⟩ := solved_parts (mem_sols.1 hp)
  obtain ⟨hr, hd, hy, ho⟩ := fair_parts hf
  have hh : hasB (noneL cs) p = true := hasB_iff.2 fun k _ => .inl (ati_none cs k)
  have hn : (noneL cs).length = p.length := by rw [lays_len hy]; simp [noneL]
  have hfn : fairB W T cs ds (noneL cs) = true := fair_of hr hd (lays_none W T cs) (once_sub (has_pairs hn hh) ho)
  rw [firstHas, if_pos hfn, h, List.find?_cons, hh]

end Go.Proofs.Dev
