/- Contracts of the functions of the program over slots and rows, each proved against the program itself; no condition beyond those that each theorem names. -/
import Derived.Test.YtlcoaglnegibkaaGreatAB
import Derived.Test.YtlcoaglnegibkaaGreatAC
import Derived.Test.YtlcoaglnegibkaaGreatZ

set_option linter.unusedSimpArgs false
set_option linter.unusedVariables false

namespace Go.Proofs.Dev
set_option linter.unusedSimpArgs false
set_option maxRecDepth 100000

theorem noVL_ints : ∀ xs : List Int, noVL (ints xs) = true
  | [] => by simp [noVL]
  | x :: xs => by show (noV (.v (.int .i64 x)) && noVL (ints xs)) = true; rw [noVL_ints xs]; simp [noV]
theorem noVL_oss : ∀ ps : List (List Int), noVL (oss ps) = true
  | [] => by simp [noVL]
  | p :: ps => by show (noV (.os 1 (ints p)) && noVL (oss ps)) = true; rw [noVL_oss ps]; simp [noV, noVL_ints]

theorem s_slices_Clip_ints (ps : List (List Int)) : SoundAt Tryz.prog n_slices_Clip_ints [.os 1 (oss ps)] (.os 1 (oss ps)) [.bot] := by
  refine fn_ok (md := md0) (ms := [false]) k_slices_Clip_ints (by simp) ?_
  simp [c_slices_Clip_ints]

theorem s_impl_Region_solutions0 (W T : Int) (cs : List Bool) (ds ls : List Int) (hok : okB W T cs ds ls = true) :
    SoundAt Tryz.prog n_impl_Region_solutions [.agg [.v (.int .i64 W), .v (.int .i64 T), .sl 0 1 (bools cs)], .sl 0 1 (ints ds), .sl 0 1 (ints ls)] (.os 1 (oss (keepT W T ds (allT W T cs cs.length ls)))) [.bot, .bot, .bot] := by
  refine fn_ok (md := md2) (ms := [false, false, false]) k_impl_Region_solutions (by simp) ?_
  have hok' := hok
  simp only [okB, Bool.and_eq_true] at hok'
  obtain ⟨hr, hd, hy⟩ := hok'
  have h36 := regB_len hr
  have hl := lays_len hy
  have hz : zeros ls ≤ cs.length := by have := zeros_le ls; omega
  have hpow : 2 ^ cs.length ≤ 2 ^ 36 := Nat.pow_le_pow_right (by omega) h36
  have each := s_impl_each W T cs ds hr hd cs.length ls [] hz hy (by simp only [List.length_nil, Nat.zero_add]; exact Nat.le_trans hpow (by decide))
  rw [oss_nil, List.nil_append] at each
  simp [c_impl_Region_solutions]
  (repeat' first | assumption | omega | apply And.intro) <;>
  · refine call_on (s_impl_clone_int ls (by omega)) ?_
    simp
    (repeat' first | assumption | omega | apply And.intro) <;>
    · refine call_on each ?_
      simp [c_impl_Region_solutions_T0]
      refine call_on (s_slices_Clip_ints (keepT W T ds (allT W T cs cs.length ls))) ?_
      simp

theorem s_impl_Region_solutions (W T : Int) (cs : List Bool) (ds ls : List Int) (hok : okB W T cs ds ls = true) :
    SoundAt Tryz.prog n_impl_Region_solutions [.agg [.v (.int .i64 W), .v (.int .i64 T), .sl 1 1 (bools cs)], .sl 1 1 (ints ds), .sl 1 1 (ints ls)] (.os 1 (oss (keepT W T ds (allT W T cs cs.length ls)))) [.bot, .bot, .bot] := by
  refine SoundAt.lift (n := 3) (fun C S us hr => noOL_ok _ S us rfl hr) (by simp [noV, noVL_oss]) ?_
  have h := s_impl_Region_solutions0 W T cs ds ls hok
  simpa [vwL, vw] using h

theorem keepT_sols {W T : Int} {cs : List Bool} {ds : List Int} (h : (regB W T cs && digsB cs ds) = true) : keepT W T ds (allT W T cs cs.length (noneL cs)) = solsI W T cs ds := by
  have hr : regB W T cs = true := by simp only [Bool.and_eq_true] at h; exact h.1
  rw [sols_fair h, tilesI, if_pos hr]; rfl

theorem s_impl_SolutionsAll (W T : Int) (cs : List Bool) (ds : List Int) (hb : cs.length < 2 ^ 40) (hd : ds.length < 2 ^ 40) :
    SoundAt Tryz.prog n_impl_SolutionsAll [.agg [.v (.int .i64 W), .v (.int .i64 T), .sl 1 1 (bools cs)], .sl 1 1 (ints ds)] (.os 1 (oss (solsI W T cs ds))) [.bot, .bot] := by
  refine fn_ok (md := md0) (ms := [false, false]) k_impl_SolutionsAll (by simp) ?_
  simp [c_impl_SolutionsAll]
  refine call_on (s_impl_PuzzleValid W T cs ds hb hd) ?_
  cases hv : (regB W T cs && digsB cs ds) with
  | false =>
    have e : solsI W T cs ds = [] := by rw [solsI, if_neg (by simp [hv])]
    simp [e]
  | true =>
  have hr : regB W T cs = true := by simp only [Bool.and_eq_true] at hv; exact hv.1
  have hdg : digsB cs ds = true := by simp only [Bool.and_eq_true] at hv; exact hv.2
  have hdl : ds.length = cs.length := by simp only [digsB, Bool.and_eq_true, decide_eq_true_eq] at hdg; exact hdg.1
  have sol := s_impl_Region_solutions W T cs ds (noneL cs) (by simp only [okB, hr, hdg, lays_none, Bool.and_self])
  rw [keepT_sols hv] at sol
  have en : ints (List.replicate ds.length 0) = ints (noneL cs) := by rw [hdl]; rfl
  simp [ints_rep]
  (repeat' first | assumption | omega | apply And.intro) <;>
  · rw [en]
    refine call_on sol ?_
    have htk : (ints (noneL cs)).take ds.length = ints (noneL cs) := List.take_of_length_le (by simp [noneL, hdl])
    have hnl : (noneL cs).length = ds.length := by simp [noneL, hdl]
    simp [htk, hnl]

/-- The first solution with the dominoes of a fair list. -/
def firstHas (W T : Int) (cs : List Bool) (ds ls : List Int) : Option (List Int) := if fairB W T cs ds ls then (solsI W T cs ds).find? (hasB ls) else none
def resF : Option (List Int) → AV
  | some x => .tup [.sl 0 1 (ints x), .v (.bool true)]
  | none => .tup [.os 1 [], .v (.bool false)]
def resO : Option (List Int) → AV
  | some x => .tup [.os 1 (ints x), .v (.bool true)]
  | none => .tup [.os 1 [], .v (.bool false)]

theorem sols_len {W T : Int} {cs : List Bool} {ds p : List Int} (h : p ∈ solsI W T cs ds) : p.length = cs.length := by
  unfold solsI at h
  split at h
  · exact tiles_mem (List.mem_filter.1 h).1
  · cases h

theorem sols_length {W T : Int} {cs : List Bool} {ds : List Int} : (solsI W T cs ds).length ≤ 68719476736 := by
  unfold solsI
  split
  · exact Nat.le_trans (List.length_filter_le _ _) tiles_length
  · simp

theorem find_pti {ps : List (List Int)} {p : List Int → Bool} {i : Nat} (h : i < ps.length) (ha : ∀ j : Nat, j < i → p (pti ps j) = false) (hp : p (pti ps i) = true) : ps.find? p = some (pti ps i) := by
  rw [List.find?_eq_some_iff_getElem]
  refine ⟨hp, i, h, (pti_get h).symm, fun j hj => ?_⟩
  have h2 := ha j hj
  rw [pti_get (by omega)] at h2
  simp [h2]
theorem find_none {ps : List (List Int)} {p : List Int → Bool} (ha : ∀ j : Nat, j < ps.length → p (pti ps j) = false) : ps.find? p = none := by
  rw [List.find?_eq_none]
  intro x hx
  obtain ⟨j, hj, rfl⟩ := List.getElem_of_mem hx
  have h2 := ha j hj
  rw [pti_get hj] at h2
  simp [h2]

def hasTo (ls p : List Int) (n : Nat) : Bool := allB n fun k => decide (ati ls k = 0) || decide (ati p k = ati ls k)
theorem hasTo_succ (ls p : List Int) (n : Nat) : hasTo ls p (n + 1) = (hasTo ls p n && (decide (ati ls n = 0) || decide (ati p n = ati ls n))) := by simp [hasTo, allB_succ]
theorem hasTo_all (ls p : List Int) : hasTo ls p ls.length = hasB ls p := rfl

theorem s_spec_SolutionsAllF (W T : Int) (cs : List Bool) (ds : List Int) (hb : cs.length < 2 ^ 40) (hd : ds.length < 2 ^ 40) :
    SoundAt Tryz.prog n_spec_SolutionsAll [.agg [.v (.int .i64 W), .v (.int .i64 T), .sl 1 1 (bools cs)], .sl 1 1 (ints ds)] (.sl 0 1 (sls 0 (solsI W T cs ds))) [.bot, .bot] := by
  have h := SoundAt.frozen (n := 2) (fun C S us hr => noOL_ok _ S us rfl hr) (s_spec_SolutionsAll W T cs ds hb hd)
  simpa [vw] using h

theorem s_spec_SolveFirst (W T : Int) (cs : List Bool) (ds ls : List Int) (hb : cs.length < 2 ^ 40) (hd : ds.length < 2 ^ 40) (hl : ls.length < 2 ^ 40) :
    SoundAt Tryz.prog n_spec_SolveFirst [.agg [.v (.int .i64 W), .v (.int .i64 T), .sl 1 1 (bools cs)], .sl 1 1 (ints ds), .sl 1 1 (ints ls)] (resF (firstHas W T cs ds ls)) [.bot, .bot, .bot] := by
  refine fn_ok (md := md0) (ms := [false, false, false]) k_spec_SolveFirst (by simp) ?_
  simp [c_spec_SolveFirst]
  refine call_on (s_spec_SolutionsAllF W T cs ds hb hd) ?_
  simp
  refine loop_by (fun m E H => ∃ i : Nat, m = (solsI W T cs ds).length - i ∧ i ≤ (solsI W T cs ds).length ∧ (∀ j : Nat, j < i → hasB ls (pti (solsI W T cs ds) j) = false) ∧ H = [some (.box [.v (.int .i64 W), .v (.int .i64 T), .sl 1 1 (bools cs)])] ∧
    E = [(1, .sl 1 1 (ints ds)), (2, .sl 1 1 (ints ls)), (3, .lp 0 0 0 0), (8, .sl 0 1 (sls 0 (solsI W T cs ds))), (9, .v (.int .i64 i))]) (solsI W T cs ds).length ⟨0, by simp⟩ ?_
  rintro J hJ m E H ⟨i, rfl, hi, ha, rfl, rfl⟩
  by_cases h : i < (solsI W T cs ds).length
  case neg =>
    have e : firstHas W T cs ds ls = none := by
      unfold firstHas; split
      · exact find_none fun j hj => ha j (by omega)
      · rfl
    have hi' : i = (solsI W T cs ds).length := by omega
    simp [c_spec_SolveFirst_L1, e, resF, hi']
  simp [c_spec_SolveFirst_L1, h]
  refine call_on (s_spec_FairOk W T cs ds ls hb hd hl) ?_
  cases hf : fairB W T cs ds ls with
  | false =>
    have e : firstHas W T cs ds ls = none := by simp [firstHas, hf]
    simp [e, resF]
  | true =>
  obtain ⟨hr, e1, e2, _⟩ := okB_W (fairB_ok hf)
  have hpl : (pti (solsI W T cs ds) i).length = cs.length := sols_len (pti_mem h)
  simp
  refine loop_by (fun m E H => ∃ j : Nat, m = ls.length - j ∧ j ≤ ls.length ∧ H = [some (.box [.v (.int .i64 W), .v (.int .i64 T), .sl 1 1 (bools cs)])] ∧
    E = [(1, .sl 1 1 (ints ds)), (2, .sl 1 1 (ints ls)), (3, .lp 0 0 0 0), (8, .sl 0 1 (sls 0 (solsI W T cs ds))), (9, .v (.int .i64 i)), (10, .v (.bool (hasTo ls (pti (solsI W T cs ds) i) j))), (11, .v (.int .i64 j))]) ls.length ⟨0, by simp [hasTo, allB_zero]⟩ ?_
  rintro J2 hJ2 m2 E2 H2 ⟨j, rfl, hj, rfl, rfl⟩
  by_cases h2 : j < ls.length
  case neg =>
    have hj' : j = ls.length := by omega
    subst hj'
    rw [hasTo_all]
    cases hh : hasB ls (pti (solsI W T cs ds) i) with
    | true =>
      have e : firstHas W T cs ds ls = some (pti (solsI W T cs ds) i) := by
        unfold firstHas
        rw [if_pos hf]
        exact find_pti h ha hh
      simp [c_spec_SolveFirst_L0, e, resF, h]
    | false =>
      simp [c_spec_SolveFirst_L0]
      refine ⟨by have := sols_length (W := W) (T := T) (cs := cs) (ds := ds); omega, ?_⟩
      refine ⟨_, by omega, hJ _ _ _ ⟨i + 1, rfl, h, ?_, rfl, rfl⟩⟩
      intro k hk
      rcases Nat.lt_or_ge k i with h1 | h1
      · exact ha k h1
      · have : k = i := by omega
        subst this; exact hh
  have hs := hasTo_succ ls (pti (solsI W T cs ds) i) j
  have next : ∀ b : Bool, hasTo ls (pti (solsI W T cs ds) i) (j + 1) = b → again J2 (ls.length - j) [(1, .sl 1 1 (ints ds)), (2, .sl 1 1 (ints ls)), (3, .lp 0 0 0 0), (8, .sl 0 1 (sls 0 (solsI W T cs ds))), (9, .v (.int .i64 i)), (10, .v (.bool b)), (11, .v (.int .i64 (j + 1)))]
      [some (.box [.v (.int .i64 W), .v (.int .i64 T), .sl 1 1 (bools cs)])] := by
    rintro b rfl
    exact ⟨_, by omega, hJ2 _ _ _ ⟨j + 1, rfl, h2, rfl, rfl⟩⟩
  have hjp : j < (pti (solsI W T cs ds) i).length := by omega
  cases hh : hasTo ls (pti (solsI W T cs ds) i) j with
  | false =>
    have n := next false (by rw [hs, hh]; rfl)
    simp [c_spec_SolveFirst_L0, h2]
    exact ⟨by omega, n⟩
  | true =>
  by_cases z : ati ls j = 0
  · have n := next true (by rw [hs, hh, z]; rfl)
    simp [c_spec_SolveFirst_L0, h2, z]
    exact ⟨by omega, n⟩
  by_cases ez : ati (pti (solsI W T cs ds) i) j = ati ls j
  · have n := next true (by rw [hs, hh, ez]; simp)
    simp [c_spec_SolveFirst_L0, h2, z, h, hjp, ez]
    exact ⟨by omega, n⟩
  · have n := next (ati (pti (solsI W T cs ds) i) j == ati ls j) (by rw [hs, hh]; simp [z, ez])
    simp [c_spec_SolveFirst_L0, h2, z, h, hjp]
    exact ⟨by omega, n⟩

theorem s_impl_Region_solve (W T : Int) (cs : List Bool) (ds ls : List Int) (hok : okB W T cs ds ls = true) :
    SoundAt Tryz.prog n_impl_Region_solve [.agg [.v (.int .i64 W), .v (.int .i64 T), .sl 1 1 (bools cs)], .sl 1 1 (ints ds), .sl 1 1 (ints ls)] (resO ((solsI W T cs ds).find? (hasB ls))) [.bot, .bot, .bot] := by
  refine fn_ok (md := md0) (ms := [false, false, false]) k_impl_Region_solve (by simp) ?_
  simp [c_impl_Region_solve]
  refine call_on (s_impl_Region_solutions W T cs ds ls hok) ?_
  have e : keepT W T ds (allT W T cs cs.length ls) = (solsI W T cs ds).filter (hasB ls) := sols_has hok
  rw [← List.head?_filter, ← e]
  cases hp : keepT W T ds (allT W T cs cs.length ls) with
  | nil => simp [resO]
  | cons p ps =>
    have h0 : ¬ ((ps.length : Int) + 1 = 0) := by omega
    simp [resO, h0]
    refine awpT_take rfl rfl rfl ?_
    intro u
    simp [takeH]

theorem s_impl_SolveFirst (W T : Int) (cs : List Bool) (ds ls : List Int) (hb : cs.length < 2 ^ 40) (hd : ds.length < 2 ^ 40) (hl : ls.length < 2 ^ 40) :
    SoundAt Tryz.prog n_impl_SolveFirst [.agg [.v (.int .i64 W), .v (.int .i64 T), .sl 1 1 (bools cs)], .sl 1 1 (ints ds), .sl 1 1 (ints ls)] (resO (firstHas W T cs ds ls)) [.bot, .bot, .bot] := by
  refine fn_ok (md := md0) (ms := [false, false, false]) k_impl_SolveFirst (by simp) ?_
  simp [c_impl_SolveFirst]
  refine call_on (s_impl_FairOk W T cs ds ls hb hd hl) ?_
  cases hf : fairB W T cs ds ls with
  | false => simp [firstHas, hf, resO]
  | true =>
  simp
  refine call_on (s_impl_Region_solve W T cs ds ls (fairB_ok hf)) ?_
  have e : firstHas W T cs ds ls = (solsI W T cs ds).find? (hasB ls) := by simp [firstHas, hf]
  rw [e]
  cases hr : (solsI W T cs ds).find? (hasB ls) with
  | none => simp [resO]
  | some x => simp [resO]

end Go.Proofs.Dev

namespace Go.Proofs.Dev
set_option linter.unusedSimpArgs false
set_option maxRecDepth 100000

/-- The cell of a hint, where there is a solution. -/
def hintC (W T : Int) (cs : List Bool) (ds ls : List Int) : Int := if oneI W T cs ds ls < 0 then bareI cs ls else oneI W T cs ds ls
def hint1 (W T : Int) (cs : List Bool) (ds ls : List Int) : Int := if (firstHas W T cs ds ls).isSome = true then hintC W T cs ds ls else -1
def hint2 (W T : Int) (cs : List Bool) (ds ls : List Int) : Int := match firstHas W T cs ds ls with
  | some x => if hintC W T cs ds ls < 0 then 0 else ati x (hintC W T cs ds ls)
  | none => 0

theorem firstHas_some {W T : Int} {cs : List Bool} {ds ls x : List Int} (h : firstHas W T cs ds ls = some x) : fairB W T cs ds ls = true ∧ x.length = cs.length := by
  unfold firstHas at h
  split at h
  · rename_i hf
    exact ⟨hf, sols_len (List.mem_of_find?_eq_some h)⟩
  · cases h

theorem hintC_cases (W T : Int) (cs : List Bool) (ds ls : List Int) : hintC W T cs ds ls = -1 ∨ ∃ k : Nat, k < ls.length ∧ hintC W T cs ds ls = k := by
  unfold hintC
  split
  · rcases bare_cases cs ls with h | ⟨k, hk, he, _⟩
    · exact .inl h
    · exact .inr ⟨k, hk, he⟩
  · rename_i h1
    rcases one_cases W T cs ds ls with h | ⟨k, hk, he, _⟩
    · omega
    · exact .inr ⟨k, hk, he⟩

theorem s_impl_HintOf (W T : Int) (cs : List Bool) (ds ls : List Int) (hb : cs.length < 2 ^ 40) (hd : ds.length < 2 ^ 40) (hl : ls.length < 2 ^ 40) :
    SoundAt Tryz.prog n_impl_HintOf [.agg [.v (.int .i64 W), .v (.int .i64 T), .sl 1 1 (bools cs)], .sl 1 1 (ints ds), .sl 1 1 (ints ls)] (.tup [.v (.int .i64 (hint1 W T cs ds ls)), .v (.int .i64 (hint2 W T cs ds ls))]) [.bot, .bot, .bot] := by
  refine fn_ok (md := md0) (ms := [false, false, false]) k_impl_HintOf (by simp) ?_
  simp [c_impl_HintOf]
  refine call_on (s_impl_SolveFirst W T cs ds ls hb hd hl) ?_
  cases hx : firstHas W T cs ds ls with
  | none => simp [resO, hint1, hint2, hx]
  | some x =>
  obtain ⟨hf, hxl⟩ := firstHas_some hx
  have hok := fairB_ok hf
  obtain ⟨hr, e1, e2, _⟩ := okB_W hok
  have eh1 : hint1 W T cs ds ls = hintC W T cs ds ls := by simp [hint1, hx]
  have eh2 : hint2 W T cs ds ls = if hintC W T cs ds ls < 0 then 0 else ati x (hintC W T cs ds ls) := by simp [hint2, hx]
  rw [eh1, eh2]
  simp [resO]
  refine call_on (s_impl_Region_first W T cs ds ls 1 hok) ?_
  have e0 : firstI (hitB W T cs ds ls 1) ls.length = oneI W T cs ds ls := rfl
  rw [e0]
  simp
  refine loop_by (fun m E H => ∃ (i : Nat) (c : Int), m = ls.length - i ∧ i ≤ ls.length ∧ (c = hintC W T cs ds ls ∧ 0 ≤ c ∨ c = -1 ∧ oneI W T cs ds ls < 0 ∧ ∀ j : Nat, j < i → bareB cs ls j = false) ∧
    H = [some (.box [.v (.int .i64 W), .v (.int .i64 T), .sl 1 1 (bools cs)]), some (.arr 1 (ints x))] ∧
    E = [(2, .sl 1 1 (ints ls)), (3, .lp 0 0 0 0), (8, .ls 1 1 0 x.length), (10, .v (.int .i64 c)), (11, .v (.int .i64 i))]) ls.length ⟨0, oneI W T cs ds ls, by simp, by simp, ?_, by simp, by simp⟩ ?_
  · rcases one_cases W T cs ds ls with h | ⟨k, hk, he, _⟩
    · right; exact ⟨h, by omega, by omega⟩
    · left; refine ⟨by rw [hintC, if_neg (by omega)], by omega⟩
  rintro J hJ m E H ⟨i, c, rfl, hi, hc, rfl, rfl⟩
  rcases hc with ⟨rfl, hc0⟩ | ⟨rfl, ho, hbr⟩
  · -- a cell is found
    rcases hintC_cases W T cs ds ls with h | ⟨k, hk, he⟩
    · omega
    rw [he]
    have hkx : k < x.length := by omega
    have hk0 : ¬ (k : Int) < 0 := by omega
    simp [c_impl_HintOf_L0, hk0, hkx]
  by_cases h : i < ls.length
  case neg =>
    have hi' : i = ls.length := by omega
    subst hi'
    have he : hintC W T cs ds ls = -1 := by
      rw [hintC, if_pos ho]; exact firstI_none hbr
    simp [c_impl_HintOf_L0, he]
  have one := s_impl_Region_bare W T cs ls i (by omega) e2
  have hii : (i : Int) < cs.length := by omega
  simp [c_impl_HintOf_L0, h]
  refine call_on one ?_
  cases hb2 : bareB cs ls i with
  | true =>
    have hb' : decide (0 ≤ (i : Int) ∧ (i : Int) < cs.length ∧ atb cs i = true ∧ ati ls i = 0) = true := by
      simp [bareB] at hb2 ⊢; exact ⟨by omega, hb2⟩
    rw [hb']
    simp
    have he : hintC W T cs ds ls = i := by rw [hintC, if_pos ho]; exact firstI_hit h hb2 hbr
    exact ⟨by omega, _, by omega, hJ _ _ _ ⟨i + 1, i, rfl, h, .inl ⟨he.symm, by omega⟩, rfl, rfl⟩⟩
  | false =>
    have hb' : decide (0 ≤ (i : Int) ∧ (i : Int) < cs.length ∧ atb cs i = true ∧ ati ls i = 0) = false := by
      simp [bareB] at hb2 ⊢; intro _; exact hb2
    rw [hb']
    simp
    refine ⟨by omega, _, by omega, hJ _ _ _ ⟨i + 1, -1, rfl, h, .inr ⟨rfl, ho, ?_⟩, rfl, rfl⟩⟩
    intro j hj
    rcases Nat.lt_or_ge j i with h1 | h1
    · exact hbr j h1
    · have : j = i := by omega
      subst this; exact hb2

theorem s_spec_HintOf (W T : Int) (cs : List Bool) (ds ls : List Int) (hb : cs.length < 2 ^ 40) (hd : ds.length < 2 ^ 40) (hl : ls.length < 2 ^ 40) :
    SoundAt Tryz.prog n_spec_HintOf [.agg [.v (.int .i64 W), .v (.int .i64 T), .sl 1 1 (bools cs)], .sl 1 1 (ints ds), .sl 1 1 (ints ls)] (.tup [.v (.int .i64 (hint1 W T cs ds ls)), .v (.int .i64 (hint2 W T cs ds ls))]) [.bot, .bot, .bot] := by
  refine fn_ok (md := md0) (ms := [false, false, false]) k_spec_HintOf (by simp) ?_
  simp [c_spec_HintOf]
  refine call_on (s_spec_SolveFirst W T cs ds ls hb hd hl) ?_
  cases hx : firstHas W T cs ds ls with
  | none =>
    have eh1 : hint1 W T cs ds ls = -1 := by simp [hint1, hx]
    have eh2 : hint2 W T cs ds ls = 0 := by simp [hint2, hx]
    rw [eh1, eh2]
    simp [resF]
    refine loop_by (fun m E H => H = [some (.box [.v (.int .i64 W), .v (.int .i64 T), .sl 1 1 (bools cs)]), some (.arr 1 [])] ∧
      E = [(1, .sl 1 1 (ints ds)), (2, .sl 1 1 (ints ls)), (3, .lp 0 0 0 0), (8, .ls 1 1 0 0), (9, .v (.bool false)), (10, .v (.int .i64 (-1))), (11, .v (.int .i64 0))]) 0 ⟨by simp, by simp⟩ ?_
    rintro J hJ m E H ⟨rfl, rfl⟩
    simp [c_spec_HintOf_L0]
    (repeat' first | omega | apply And.intro | intro _) <;>
    · refine loop_by (fun m E H => H = [some (.box [.v (.int .i64 W), .v (.int .i64 T), .sl 1 1 (bools cs)]), some (.arr 1 [])] ∧
        E = [(1, .sl 1 1 (ints ds)), (2, .sl 1 1 (ints ls)), (3, .lp 0 0 0 0), (8, .ls 1 1 0 0), (9, .v (.bool false)), (10, .v (.int .i64 (-1))), (12, .v (.int .i64 (ls.length - 1)))]) 0 ⟨rfl, rfl⟩ ?_
      rintro J hJ m E H ⟨rfl, rfl⟩
      by_cases h : (0 : Int) ≤ ls.length - 1
      · simp [c_spec_HintOf_L1, h]
      · simp [c_spec_HintOf_L1, h]
  | some x =>
  obtain ⟨hf, hxl⟩ := firstHas_some hx
  have hok := fairB_ok hf
  obtain ⟨hr, e1, e2, _⟩ := okB_W hok
  have eh1 : hint1 W T cs ds ls = hintC W T cs ds ls := by simp [hint1, hx]
  have eh2 : hint2 W T cs ds ls = if hintC W T cs ds ls < 0 then 0 else ati x (hintC W T cs ds ls) := by simp [hint2, hx]
  rw [eh1, eh2]
  simp [resF]
  refine loop_by (fun m E H => ∃ (i : Nat) (c : Int), m = ls.length - i ∧ i ≤ ls.length ∧ (c = bareI cs ls ∧ 0 ≤ c ∨ c = -1 ∧ ∀ j : Nat, j < i → bareB cs ls j = false) ∧
    H = [some (.box [.v (.int .i64 W), .v (.int .i64 T), .sl 1 1 (bools cs)])] ∧
    E = [(1, .sl 1 1 (ints ds)), (2, .sl 1 1 (ints ls)), (3, .lp 0 0 0 0), (8, .sl 0 1 (ints x)), (9, .v (.bool true)), (10, .v (.int .i64 c)), (11, .v (.int .i64 i))]) ls.length ⟨0, -1, by simp⟩ ?_
  rintro J hJ m E H ⟨i, c, rfl, hi, hc, rfl, rfl⟩
  by_cases h : i < ls.length
  case pos =>
    have next : ∀ c' : Int, (c' = bareI cs ls ∧ 0 ≤ c' ∨ c' = -1 ∧ ∀ j : Nat, j < i + 1 → bareB cs ls j = false) → again J (ls.length - i) [(1, .sl 1 1 (ints ds)), (2, .sl 1 1 (ints ls)), (3, .lp 0 0 0 0), (8, .sl 0 1 (ints x)), (9, .v (.bool true)), (10, .v (.int .i64 c')), (11, .v (.int .i64 (i + 1)))]
        [some (.box [.v (.int .i64 W), .v (.int .i64 T), .sl 1 1 (bools cs)])] := by
      intro c' hc'
      exact ⟨_, by omega, hJ _ _ _ ⟨i + 1, c', rfl, h, hc', rfl, rfl⟩⟩
    have h2 : i < cs.length := by omega
    rcases hc with ⟨rfl, hc0⟩ | ⟨rfl, hbr⟩
    · have hc1 : ¬ bareI cs ls < 0 := by omega
      simp [c_spec_HintOf_L0, h, hc1]
      exact ⟨by omega, next _ (.inl ⟨rfl, hc0⟩)⟩
    have up : bareB cs ls i = false → ∀ j : Nat, j < i + 1 → bareB cs ls j = false := by
      intro hx2 j hj
      rcases Nat.lt_or_ge j i with h1 | h1
      · exact hbr j h1
      · have : j = i := by omega
        subst this; exact hx2
    cases hcc : atb cs i with
    | false =>
      simp [c_spec_HintOf_L0, h, h2, hcc]
      exact ⟨by omega, next _ (.inr ⟨rfl, up (by simp [bareB, hcc])⟩)⟩
    | true =>
    by_cases z : ati ls i = 0
    · have he : bareI cs ls = i := firstI_hit h (by simp [bareB, hcc, z]) hbr
      simp [c_spec_HintOf_L0, h, h2, hcc, z]
      exact ⟨by omega, next _ (.inl ⟨he.symm, by omega⟩)⟩
    · simp [c_spec_HintOf_L0, h, h2, hcc, z]
      exact ⟨by omega, next _ (.inr ⟨rfl, up (by simp [bareB, z])⟩)⟩
  have hi' : i = ls.length := by omega
  subst hi'
  have hcb : c = bareI cs ls := by
    rcases hc with ⟨h1, _⟩ | ⟨h1, h2⟩
    · exact h1
    · rw [h1]; exact (firstI_none h2).symm
  subst hcb
  clear hJ hc
  simp [c_spec_HintOf_L0]
  refine ⟨by omega, ?_⟩
  refine loop_by (fun m E H => ∃ (i : Nat) (c : Int), m = i ∧ i ≤ ls.length ∧ (c = bareI cs ls ∧ (∀ j : Nat, i ≤ j → j < ls.length → hitB W T cs ds ls 1 j = false) ∨ ∃ j : Nat, i ≤ j ∧ j < ls.length ∧ c = j ∧ hitB W T cs ds ls 1 j = true ∧ ∀ j' : Nat, i ≤ j' → j' < j → hitB W T cs ds ls 1 j' = false) ∧
    H = [some (.box [.v (.int .i64 W), .v (.int .i64 T), .sl 1 1 (bools cs)])] ∧
    E = [(1, .sl 1 1 (ints ds)), (2, .sl 1 1 (ints ls)), (3, .lp 0 0 0 0), (8, .sl 0 1 (ints x)), (9, .v (.bool true)), (10, .v (.int .i64 c)), (12, .v (.int .i64 ((i : Int) - 1)))]) ls.length ⟨ls.length, bareI cs ls, rfl, Nat.le_refl _, .inl ⟨rfl, fun j h1 h2 => by omega⟩, rfl, rfl⟩ ?_
  rintro J hJ m E H ⟨i, c, rfl, hi, hc, rfl, rfl⟩
  cases m with
  | zero =>
    have hcc : c = hintC W T cs ds ls := by
      rcases hc with ⟨h1, h2⟩ | ⟨j, h1, h2, h3, h4, h5⟩
      · have ho : oneI W T cs ds ls = -1 := firstI_none fun j hj => h2 j (by omega) hj
        rw [h1, hintC, if_pos (by omega)]
      · have ho : oneI W T cs ds ls = j := firstI_hit h2 h4 fun j' hj' => h5 j' (by omega) hj'
        rw [h3, hintC, if_neg (by omega), ho]
    subst hcc
    rcases hintC_cases W T cs ds ls with h | ⟨k, hk, he⟩
    · simp [c_spec_HintOf_L1, h]
    · have hkx : k < x.length := by omega
      have hk0 : ¬ (k : Int) < 0 := by omega
      simp [c_spec_HintOf_L1, he, hk0, hkx]
  | succ i =>
    have h : i < ls.length := by omega
    have two := s_spec_OptionsOf W T cs ds ls i hb hd hl
    have ho : optsOf W T cs ds ls i = optsI W T cs ds ls i := by simp [optsOf, hf]
    rw [ho] at two
    have hop : (optsI W T cs ds ls i).length ≤ 4 := optTo_length ..
    have ei : ((i : Int) + 1 - 1) = i := by omega
    have next : ∀ c' : Int, (c' = bareI cs ls ∧ (∀ j : Nat, i ≤ j → j < ls.length → hitB W T cs ds ls 1 j = false) ∨ ∃ j : Nat, i ≤ j ∧ j < ls.length ∧ c' = j ∧ hitB W T cs ds ls 1 j = true ∧ ∀ j' : Nat, i ≤ j' → j' < j → hitB W T cs ds ls 1 j' = false) →
        again J (i + 1) [(1, .sl 1 1 (ints ds)), (2, .sl 1 1 (ints ls)), (3, .lp 0 0 0 0), (8, .sl 0 1 (ints x)), (9, .v (.bool true)), (10, .v (.int .i64 c')), (12, .v (.int .i64 ((i : Int) - 1)))]
        [some (.box [.v (.int .i64 W), .v (.int .i64 T), .sl 1 1 (bools cs)])] := by
      intro c' hc'
      exact ⟨_, by omega, hJ _ _ _ ⟨i, c', rfl, by omega, hc', rfl, rfl⟩⟩
    simp [c_spec_HintOf_L1, ei]
    refine call_on two ?_
    by_cases hn : (optsI W T cs ds ls i).length = 1
    · have hbare : 0 ≤ (i : Int) ∧ (i : Int) < cs.length ∧ atb cs i = true ∧ ati ls i = 0 := by
        apply Decidable.byContradiction
        intro hx
        rw [optsI_bare W T cs ds ls i hx] at hn
        simp at hn
      have hh : hitB W T cs ds ls 1 i = true := by simp [hitB, hbare.2.2.1, hbare.2.2.2, hn]
      simp [hn]
      exact ⟨by omega, next _ (.inr ⟨i, Nat.le_refl _, h, rfl, hh, fun j' h1 h2 => by omega⟩)⟩
    · have hn' : ¬ ((optsI W T cs ds ls i).length : Int) = 1 := by omega
      have hh : hitB W T cs ds ls 1 i = false := by simp [hitB, hn']
      simp [hn']
      refine ⟨by omega, next _ ?_⟩
      rcases hc with ⟨h1, h2⟩ | ⟨j, h1, h2, h3, h4, h5⟩
      · refine .inl ⟨h1, fun j hj1 hj2 => ?_⟩
        rcases Nat.lt_or_ge i j with h6 | h6
        · exact h2 j h6 hj2
        · have : j = i := by omega
          subst this; exact hh
      · refine .inr ⟨j, by omega, h2, h3, h4, fun j' hj1 hj2 => ?_⟩
        rcases Nat.lt_or_ge i j' with h6 | h6
        · exact h5 j' h6 hj2
        · have : j' = i := by omega
          subst this; exact hh

end Go.Proofs.Dev

namespace Go.Proofs.Dev
set_option linter.unusedSimpArgs false

/-- What has the dominoes of a list has their pairs. -/
theorem pairs_sub {W T : Int} {ds a b : List Int} (hl : a.length = b.length) (h : ∀ k : Nat, k < a.length → ati a k = 0 ∨ ati b k = ati a k) : List.Sublist (pairsI W T ds a) (pairsI W T ds b) := by
  have : ∀ n, n ≤ a.length → List.Sublist (pairsTo W T ds a n) (pairsTo W T ds b n) := by
    intro n
    induction n with
    | zero => intro _; simp [pairsTo]
    | succ n ih =>
      intro hn
      rw [pairsTo_succ, pairsTo_succ]
      rcases h n (by omega) with h0 | h0
      · rw [if_neg (by omega)]
        exact (ih (by omega)).append (List.nil_sublist _)
      · rw [h0]
        exact (ih (by omega)).append (List.Sublist.refl _)
  have e := this a.length (Nat.le_refl _)
  unfold pairsI
  rw [← hl]; exact e

theorem once_sub {a b : List Int} (h : List.Sublist a b) (hb : onceB b = true) : onceB a = true := by
  simp only [onceB, decide_eq_true_eq] at hb ⊢
  exact h.nodup hb

theorem has_pairs {W T : Int} {ds a b : List Int} (hl : a.length = b.length) (h : hasB a b = true) : List.Sublist (pairsI W T ds a) (pairsI W T ds b) :=
  pairs_sub hl fun k hk => hasB_iff.1 h k hk

theorem has_trans {a b c : List Int} (hl : a.length = b.length) (h1 : hasB a b = true) (h2 : hasB b c = true) : hasB a c = true := by
  rw [hasB_iff] at *
  intro k hk
  rcases h1 k hk with h | h
  · exact .inl h
  · rcases h2 k (by omega) with h3 | h3
    · left; omega
    · right; omega

/-- A list without the domino on a cell. -/
def liftI (W T : Int) (ls : List Int) (cell : Int) : List Int := (ls.set (stepI W T cell (ati ls cell)).toNat 0).set cell.toNat 0
theorem liftI_length (W T : Int) (ls : List Int) (cell : Int) : (liftI W T ls cell).length = ls.length := by simp [liftI]

theorem lift_at {W T : Int} {cs : List Bool} {ls : List Int} {k : Nat} (hr : regB W T cs = true) (hy : laysB W T cs ls = true) (hk : k < ls.length) (hv : ati ls k ≠ 0) :
    ∃ t : Nat, stepI W T k (ati ls k) = t ∧ t < ls.length ∧ t ≠ k ∧ ∀ j : Nat, ati (liftI W T ls k) j = if j = k then 0 else if j = t then 0 else ati ls j := by
  obtain ⟨w1, w2, t1, t2, l1, _⟩ := regB_W hr
  have hl := lays_len hy
  obtain ⟨v1, v4, g3, g4, g5, g6⟩ := lays_at hy hk hv
  obtain ⟨_, _, _, b4, b5⟩ := step_back (W := W) (T := T) (k := k) (way := ati ls k) w1 (by omega) (by omega) g4
  refine ⟨(stepI W T k (ati ls k)).toNat, by omega, by omega, by omega, fun j => ?_⟩
  unfold liftI
  rw [ati_set (by simpa using hk), ati_set (by omega)]
  simp

theorem lift_ok {W T : Int} {cs : List Bool} {ls : List Int} {k : Nat} (hr : regB W T cs = true) (hy : laysB W T cs ls = true) (hk : k < ls.length) (hv : ati ls k ≠ 0) : laysB W T cs (liftI W T ls k) = true := by
  obtain ⟨w1, w2, t1, t2, l1, _⟩ := regB_W hr
  have hl := lays_len hy
  obtain ⟨t, e, ht, htk, hat⟩ := lift_at hr hy hk hv
  obtain ⟨v1, v4, g3, g4, g5, g6⟩ := lays_at hy hk hv
  have sb := step_back (W := W) (T := T) (k := k) (way := ati ls k) w1 (by omega) (by omega) g4
  rw [e] at g6 sb
  simp only [laysB, Bool.and_eq_true, decide_eq_true_eq, allB_iff, liftI_length]
  refine ⟨hl, fun j hj => ?_⟩
  simp only [layAt, decide_eq_true_eq]
  rw [hat j]
  by_cases e1 : j = k
  · rw [if_pos e1]; exact .inl rfl
  rw [if_neg e1]
  by_cases e2 : j = t
  · rw [if_pos e2]; exact .inl rfl
  rw [if_neg e2]
  by_cases e3 : ati ls j = 0
  · exact .inl e3
  right
  obtain ⟨u1, u4, q3, q4, q5, q6⟩ := lays_at hy hj e3
  have sj := step_back (W := W) (T := T) (k := j) (way := ati ls j) w1 (by omega) (by omega) q4
  obtain ⟨s, hs⟩ : ∃ s : Nat, stepI W T j (ati ls j) = s := ⟨(stepI W T j (ati ls j)).toNat, by omega⟩
  rw [hs] at q4 q5 q6 sj ⊢
  refine ⟨u1, u4, q3, q4, q5, ?_⟩
  rw [hat s]
  have n1 : s ≠ k := by
    intro h
    subst h
    have h2 := sj.1
    rw [← q6, e] at h2
    omega
  have n2 : s ≠ t := by
    intro h
    subst h
    have h2 := sj.1
    rw [← q6, g6, sb.1] at h2
    omega
  rw [if_neg n1, if_neg n2]; exact q6

theorem fair_parts {W T : Int} {cs : List Bool} {ds ls : List Int} (h : fairB W T cs ds ls = true) : regB W T cs = true ∧ digsB cs ds = true ∧ laysB W T cs ls = true ∧ onceB (pairsI W T ds ls) = true := by
  simp only [fairB, okB, Bool.and_eq_true] at h
  exact ⟨h.1.1, h.1.2.1, h.1.2.2, h.2⟩
theorem fair_of {W T : Int} {cs : List Bool} {ds ls : List Int} (h1 : regB W T cs = true) (h2 : digsB cs ds = true) (h3 : laysB W T cs ls = true) (h4 : onceB (pairsI W T ds ls) = true) : fairB W T cs ds ls = true := by
  simp only [fairB, okB, Bool.and_eq_true]
  exact ⟨⟨h1, h2, h3⟩, h4⟩

/-! A domino more. -/
theorem lay_hasB {W T : Int} {cs : List Bool} {ls : List Int} {k : Nat} {way : Int} (hr : regB W T cs = true) (hl : ls.length = cs.length) (hf : freeB W T cs ls k way = true) : hasB ls (layI W T ls k way) = true := by
  obtain ⟨t, e, t1, t2, t3, _, _, _, _, z1, z2, hat⟩ := free_facts hr hl hf
  rw [hasB_iff]
  intro j hj
  rw [hat j]
  by_cases e1 : j = t
  · subst e1; exact .inl z2
  by_cases e2 : j = k
  · subst e2; exact .inl z1
  rw [if_neg e1, if_neg e2]; exact .inr rfl

theorem domN_set {ls : List Int} {i : Nat} {v : Int} (h : i < ls.length) (hz : ati ls i = 0) : domN (ls.set i v) = domN ls + if isDom v then 1 else 0 := by
  have he : ls[i] = 0 := by simpa [ati, h] using hz
  unfold domN
  rw [List.countP_set h, he]
  simp [isDom]

theorem domN_lay {W T : Int} {cs : List Bool} {ls : List Int} {k : Nat} {way : Int} (hr : regB W T cs = true) (hl : ls.length = cs.length) (hf : freeB W T cs ls k way = true) : domN (layI W T ls k way) = domN ls + 1 := by
  obtain ⟨t, e, t1, t2, t3, v1, v4, _, _, z1, z2, hat⟩ := free_facts hr hl hf
  unfold layI
  have h1 : ati (ls.set k way) t = 0 := by rw [ati_set t2, if_neg t3]; exact z2
  rw [e]
  simp only [Int.toNat_natCast]
  rw [domN_set (by simpa using t1) h1, domN_set t2 z1]
  have : way = 1 ∨ way = 2 ∨ way = 3 ∨ way = 4 := by omega
  rcases this with rfl | rfl | rfl | rfl <;> simp [isDom, backI]

theorem optsI_filter (W T : Int) (cs : List Bool) (ds ls : List Int) (cell : Int) : optsI W T cs ds ls cell = [1, 2, 3, 4].filter (optB W T cs ds ls cell) := by
  simp only [optsI, optTo, List.range_succ, List.range_zero, List.nil_append, List.flatMap_append, List.flatMap_cons, List.flatMap_nil, List.append_nil, List.filter_cons, List.filter_nil]
  cases h1 : optB W T cs ds ls cell 1 <;> cases h2 : optB W T cs ds ls cell 2 <;> cases h3 : optB W T cs ds ls cell 3 <;> cases h4 : optB W T cs ds ls cell 4 <;> simp [h1, h2, h3, h4]

theorem opts_mem {W T : Int} {cs : List Bool} {ds ls : List Int} {cell x : Int} : x ∈ optsI W T cs ds ls cell ↔ optB W T cs ds ls cell x = true ∧ 1 ≤ x ∧ x ≤ 4 := by
  rw [optsI_filter, List.mem_filter]
  simp only [List.mem_cons, List.not_mem_nil, or_false]
  constructor
  · rintro ⟨h1, h2⟩; exact ⟨h2, by omega, by omega⟩
  · rintro ⟨h1, h2, h3⟩; exact ⟨by omega, h1⟩

/-! Solutions. -/
theorem solved_parts {W T : Int} {cs : List Bool} {ds p : List Int} (h : solvedB W T cs ds p = true) : fairB W T cs ds p = true ∧ fullB cs p = true := by
  simpa only [solvedB, Bool.and_eq_true] using h

theorem full_at {cs : List Bool} {p : List Int} (h : fullB cs p = true) {k : Nat} (hk : k < cs.length) (hc : atb cs k = true) : ati p k ≠ 0 := by
  rw [fullB, allB_iff] at h
  have := h k hk
  simpa [fullAt, hc] using this

theorem full_bare {cs : List Bool} {p : List Int} (hl : p.length = cs.length) (h : fullB cs p = true) : bareI cs p < 0 := by
  rcases bare_cases cs p with h1 | ⟨k, hk, he, hc, hz⟩
  · omega
  · exact absurd hz (full_at h (by omega) hc)

/-- What solves the puzzle is one of the solutions. -/
theorem mem_sols {W T : Int} {cs : List Bool} {ds p : List Int} : p ∈ solsI W T cs ds ↔ solvedB W T cs ds p = true := by
  constructor
  · intro h
    unfold solsI at h
    split at h
    · exact (List.mem_filter.1 h).2
    · cases h
  · intro h
    obtain ⟨hf, hfull⟩ := solved_parts h
    obtain ⟨hr, hd, hy, ho⟩ := fair_parts hf
    have hl := lays_len hy
    have hz : zeros p ≤ cs.length := by have := zeros_le p; omega
    have hn : (noneL cs).length = cs.length := by simp [noneL]
    have hzn : zeros (noneL cs) ≤ cs.length := by have := zeros_le (noneL cs); omega
    have e := allT_filter hr cs.length (noneL cs) p cs.length hzn hz (lays_none W T cs) hy (hasB_iff.2 fun k _ => .inl (ati_none cs k))
    rw [allT_leaf _ (full_bare hl hfull)] at e
    have hm : p ∈ (allT W T cs cs.length (noneL cs)).filter (hasB p) := by rw [e]; simp
    unfold solsI
    rw [if_pos (by simp [hr, hd]), List.mem_filter]
    refine ⟨?_, h⟩
    rw [tilesI, if_pos hr]
    exact (List.mem_filter.1 hm).1

/-- A bare cell's domino in a solution is an option. -/
theorem opt_of_sol {W T : Int} {cs : List Bool} {ds ls p : List Int} {k : Nat} (hy : laysB W T cs ls = true) (hp : solvedB W T cs ds p = true) (hs : hasB ls p = true) (hk : k < cs.length) (hc : atb cs k = true) (hz : ati ls k = 0) :
    optB W T cs ds ls k (ati p k) = true ∧ 1 ≤ ati p k ∧ ati p k ≤ 4 ∧ hasB (layI W T ls k (ati p k)) p = true := by
  obtain ⟨hf, hfull⟩ := solved_parts hp
  obtain ⟨hr, hd, hyp, ho⟩ := fair_parts hf
  have hl := lays_len hy
  have hlp := lays_len hyp
  obtain ⟨w1, w2, t1, t2, l1, _⟩ := regB_W hr
  have hv := full_at hfull hk hc
  obtain ⟨v1, v4, g3, g4, g5, g6⟩ := lays_at hyp (k := k) (by omega) hv
  obtain ⟨v, hvv⟩ : ∃ v, ati p k = v := ⟨_, rfl⟩
  rw [hvv] at v1 v4 g4 g5 g6 hv ⊢
  have sb := step_back (W := W) (T := T) (k := k) (way := v) w1 (by omega) (by omega) g4
  obtain ⟨t, ht⟩ : ∃ t : Nat, stepI W T k v = t := ⟨(stepI W T k v).toNat, by omega⟩
  have hzt : ati ls t = 0 := by
    rcases hasB_iff.1 hs t (by omega) with h | h
    · exact h
    · exfalso
      rw [ht] at g6
      have := lays_back hr hy (k := k) (t := t) (way := v) (by omega) ht (by rw [← h]; exact g6)
      omega
  have hfree : freeB W T cs ls k v = true := by
    simp only [freeB, decide_eq_true_eq]
    exact ⟨by omega, by omega, g4, hc, g5, hz, by rw [ht]; exact hzt⟩
  have hh := lay_has hr hl hfree hs hvv g6
  refine ⟨?_, v1, v4, hh⟩
  simp only [optB, Bool.and_eq_true]
  exact ⟨hfree, once_sub (has_pairs (by rw [layI_length]; omega) hh) ho⟩

theorem firstHas_iff {W T : Int} {cs : List Bool} {ds ls : List Int} : (firstHas W T cs ds ls).isSome = true ↔ fairB W T cs ds ls = true ∧ ∃ p, solvedB W T cs ds p = true ∧ hasB ls p = true := by
  unfold firstHas
  split
  · rename_i hf
    rw [List.find?_isSome]
    constructor
    · rintro ⟨p, hp, h⟩; exact ⟨hf, p, mem_sols.1 hp, h⟩
    · rintro ⟨_, p, hp, h⟩; exact ⟨p, mem_sols.2 hp, h⟩
  · rename_i hf
    simp [hf]

theorem firstHas_sol {W T : Int} {cs : List Bool} {ds ls x : List Int} (h : firstHas W T cs ds ls = some x) : fairB W T cs ds ls = true ∧ solvedB W T cs ds x = true ∧ hasB ls x = true := by
  unfold firstHas at h
  split at h
  · rename_i hf
    exact ⟨hf, mem_sols.1 (List.mem_of_find?_eq_some h), List.find?_some h⟩
  · cases h

/-- What is forced is in every solution. -/
theorem force1_sol {W T : Int} {cs : List Bool} {ds ls p : List Int} (hy : laysB W T cs ls = true) (hp : solvedB W T cs ds p = true) (hs : hasB ls p = true) : hasB (force1 W T cs ds ls) p = true := by
  have hl := lays_len hy
  rcases one_cases W T cs ds ls with h | ⟨k, hk, he, hc, hz, hol, hob, hw⟩
  · rw [force1, if_pos (by omega)]; exact hs
  · rw [force1, he, if_neg (by omega)]
    obtain ⟨o1, o2, o3, o4⟩ := opt_of_sol hy hp hs (by omega) hc hz
    have hm : ati p k ∈ optsI W T cs ds ls k := opts_mem.2 ⟨o1, o2, o3⟩
    rw [hol, List.mem_singleton] at hm
    rw [← hm]; exact o4

theorem force1_has {W T : Int} {cs : List Bool} {ds ls : List Int} (hr : regB W T cs = true) (hl : ls.length = cs.length) : hasB ls (force1 W T cs ds ls) = true := by
  rcases one_cases W T cs ds ls with h | ⟨k, hk, he, hc, hz, hol, hob, hw⟩
  · rw [force1, if_pos (by omega)]; exact hasB_refl ls
  · rw [force1, he, if_neg (by omega)]
    exact lay_hasB hr hl (optB_free hob)

theorem force1_domN {W T : Int} {cs : List Bool} {ds ls : List Int} (hr : regB W T cs = true) (hl : ls.length = cs.length) (hb : force1B W T cs ds ls = true) : domN (force1 W T cs ds ls) = domN ls + 1 := by
  rcases one_cases W T cs ds ls with h | ⟨k, hk, he, hc, hz, hol, hob, hw⟩
  · simp [force1B, h] at hb
  · rw [force1, he, if_neg (by omega)]
    exact domN_lay hr hl (optB_free hob)

theorem forceAllN_facts {W T : Int} {cs : List Bool} {ds : List Int} : ∀ (n : Nat) (ls : List Int), zeros ls ≤ n → fairB W T cs ds ls = true →
    fairB W T cs ds (forceAllN W T cs ds n ls) = true ∧ hasB ls (forceAllN W T cs ds n ls) = true ∧ force1B W T cs ds (forceAllN W T cs ds n ls) = false ∧
    ∀ p, solvedB W T cs ds p = true → hasB ls p = true → hasB (forceAllN W T cs ds n ls) p = true
  | 0, ls, hz, hf => by
    refine ⟨hf, hasB_refl ls, ?_, fun p _ h => h⟩
    cases hb : force1B W T cs ds (forceAllN W T cs ds 0 ls) with
    | false => rfl
    | true =>
      have := force1_zeros hb
      rw [forceAllN] at this
      omega
  | n + 1, ls, hz, hf => by
    rw [forceAllN]
    obtain ⟨hr, hd, hy, ho⟩ := fair_parts hf
    split
    · rename_i hb
      have hz2 := force1_zeros hb
      obtain ⟨i1, i2, i3, i4⟩ := forceAllN_facts n (force1 W T cs ds ls) (by omega) (force1_fair hf)
      exact ⟨i1, has_trans (by rw [force1_length]) (force1_has hr (lays_len hy)) i2, i3, fun p hp hs => i4 p hp (force1_sol hy hp hs)⟩
    · rename_i hb
      exact ⟨hf, hasB_refl ls, by simpa using hb, fun p _ h => h⟩

theorem forceAll_facts {W T : Int} {cs : List Bool} {ds ls : List Int} (hf : fairB W T cs ds ls = true) :
    fairB W T cs ds (forceAllI W T cs ds ls) = true ∧ hasB ls (forceAllI W T cs ds ls) = true ∧ force1B W T cs ds (forceAllI W T cs ds ls) = false ∧
    ∀ p, solvedB W T cs ds p = true → hasB ls p = true → hasB (forceAllI W T cs ds ls) p = true :=
  forceAllN_facts ls.length ls (zeros_le ls) hf

/-- If all that is forced is a tiling, it is the only solution with the list. -/
theorem forced_one {W T : Int} {cs : List Bool} {ds ls : List Int} (hf : fairB W T cs ds ls = true) (hfull : fullB cs (forceAllI W T cs ds ls) = true) : (solsI W T cs ds).filter (hasB ls) = [forceAllI W T cs ds ls] := by
  obtain ⟨i1, i2, i3, i4⟩ := forceAll_facts hf
  obtain ⟨hr, hd, hy, ho⟩ := fair_parts i1
  have hyl := (fair_parts hf).2.2.1
  have e := sols_has (W := W) (T := T) (cs := cs) (ds := ds) (ls := forceAllI W T cs ds ls) (by simp [okB, hr, hd, hy])
  rw [allT_leaf _ (full_bare (lays_len hy) hfull)] at e
  simp only [List.filter_cons, ho, if_true, List.filter_nil] at e
  rw [e]
  apply List.filter_congr
  intro p hp
  rw [Bool.eq_iff_iff]
  exact ⟨fun h => i4 p (mem_sols.1 hp) h, fun h => has_trans (by rw [lays_len hyl, lays_len hy]) i2 h⟩

end Go.Proofs.Dev
