/- Contracts of the functions of the program over slots and rows, each proved against the program itself; no condition beyond those that each theorem names. -/
import Derived.Test.YtjldabnbfdgbhaaAC

set_option linter.unusedSimpArgs false
set_option linter.unusedVariables false

namespace Go.Proofs.Dev
set_option linter.unusedSimpArgs false
set_option maxRecDepth 100000

/-- The cell of a hint, where there is a solution. -/
def hintC (W T : Int) (cs : List Bool) (ds ls : List Int) : Int := if oneI W T cs ds ls < 0 then bareI cs ls else oneI W T cs ds ls
def hint1 (W T : Int) (cs : List Bool) (ds ls : List Int) : Int := if (firstHas W T cs ds ls).isSome = true then hintC W T cs ds ls else -1
def hint2 (W T : Int) (cs : List Bool) (ds ls : List Int) : Int := match firstHas W T cs ds ls with
  | some x => if hintC W T cs ds ls < 0 then 0 else ati x (hintC W T cs ds ls)
  | none => 0

theorem firstHas_some {W T : Int} {cs : List Bool} {ds ls x : List Int} (h : firstHas W T cs ds ls = some x) : fairB W T cs ds ls = true ∧ x.length = cs.length := by
  unfold firstHas at h
  split at h
  · rename_i hf
    exact ⟨hf, sols_len (List.mem_of_find?_eq_some h)⟩
  · cases h

theorem hintC_cases (W T : Int) (cs : List Bool) (ds ls : List Int) : hintC W T cs ds ls = -1 ∨ ∃ k : Nat, k < ls.length ∧ hintC W T cs ds ls = k := by
  unfold hintC
  split
  · rcases bare_cases cs ls with h | ⟨k, hk, he, _⟩
    · exact .inl h
    · exact .inr ⟨k, hk, he⟩
  · rename_i h1
    rcases one_cases W T cs ds ls with h | ⟨k, hk, he, _⟩
    · omega
    · exact .inr ⟨k, hk, he⟩

theorem s_impl_HintOf (W T : Int) (cs : List Bool) (ds ls : List Int) (hb : cs.length < 2 ^ 40) (hd : ds.length < 2 ^ 40) (hl : ls.length < 2 ^ 40) :
    SoundAt Try.prog n_impl_HintOf [.agg [.v (.int .i64 W), .v (.int .i64 T), .sl 1 1 (bools cs)], .sl 1 1 (ints ds), .sl 1 1 (ints ls)] (.tup [.v (.int .i64 (hint1 W T cs ds ls)), .v (.int .i64 (hint2 W T cs ds ls))]) [.bot, .bot, .bot] := by
  refine fn_ok (md := md0) (ms := [false, false, false]) k_impl_HintOf (by simp) ?_
  simp [c_impl_HintOf]
  refine call_on (s_impl_SolveFirst W T cs ds ls hb hd hl) ?_
  cases hx : firstHas W T cs ds ls with
  | none => simp [resO, hint1, hint2, hx]
  | some x =>
  obtain ⟨hf, hxl⟩ := firstHas_some hx
  have hok := fairB_ok hf
  obtain ⟨hr, e1, e2, _⟩ := okB_W hok
  have eh1 : hint1 W T cs ds ls = hintC W T cs ds ls := by simp [hint1, hx]
  have eh2 : hint2 W T cs ds ls = if hintC W T cs ds ls < 0 then 0 else ati x (hintC W T cs ds ls) := by simp [hint2, hx]
  rw [eh1, eh2]
  simp [resO]
  refine call_on (s_impl_Region_first W T cs ds ls 1 hok) ?_
  have e0 : firstI (hitB W T cs ds ls 1) ls.length = oneI W T cs ds ls := rfl
  rw [e0]
  simp
  refine loop_by (fun m E H => ∃ (i : Nat) (c : Int), m = ls.length - i ∧ i ≤ ls.length ∧ (c = hintC W T cs ds ls ∧ 0 ≤ c ∨ c = -1 ∧ oneI W T cs ds ls < 0 ∧ ∀ j : Nat, j < i → bareB cs ls j = false) ∧
    H = [some (.box [.v (.int .i64 W), .v (.int .i64 T), .sl 1 1 (bools cs)]), some (.arr 1 (ints x))] ∧
    E = [(2, .sl 1 1 (ints ls)), (3, .lp 0 0 0 0), (8, .ls 1 1 0 x.length), (10, .v (.int .i64 c)), (11, .v (.int .i64 i))]) ls.length ⟨0, oneI W T cs ds ls, by simp, by simp, ?_, by simp, by simp⟩ ?_
  · rcases one_cases W T cs ds ls with h | ⟨k, hk, he, _⟩
    · right; exact ⟨h, by omega, by omega⟩
    · left; refine ⟨by rw [hintC, if_neg (by omega)], by omega⟩
  rintro J hJ m E H ⟨i, c, rfl, hi, hc, rfl, rfl⟩
  rcases hc with ⟨rfl, hc0⟩ | ⟨rfl, ho, hbr⟩
  · -- a cell is found
    rcases hintC_cases W T cs ds ls with h | ⟨k, hk, he⟩
    · omega
    rw [he]
    have hkx : k < x.length := by omega
    have hk0 : ¬ (k : Int) < 0 := by omega
    simp [c_impl_HintOf_L0, hk0, hkx]
  by_cases h : i < ls.length
  case neg =>
    have hi' : i = ls.length := by omega
    subst hi'
    have he : hintC W T cs ds ls = -1 := by
      rw [hintC, if_pos ho]; exact firstI_none hbr
    simp [c_impl_HintOf_L0, he]
  have one := s_impl_Region_bare W T cs ls i (by omega) e2
  have hii : (i : Int) < cs.length := by omega
  simp [c_impl_HintOf_L0, h]
  refine call_on one ?_
  cases hb2 : bareB cs ls i with
  | true =>
    have hb' : decide (0 ≤ (i : Int) ∧ (i : Int) < cs.length ∧ atb cs i = true ∧ ati ls i = 0) = true := by
      simp [bareB] at hb2 ⊢; exact ⟨by omega, hb2⟩
    rw [hb']
    simp
    have he : hintC W T cs ds ls = i := by rw [hintC, if_pos ho]; exact firstI_hit h hb2 hbr
    exact ⟨by omega, _, by omega, hJ _ _ _ ⟨i + 1, i, rfl, h, .inl ⟨he.symm, by omega⟩, rfl, rfl⟩⟩
  | false =>
    have hb' : decide (0 ≤ (i : Int) ∧ (i : Int) < cs.length ∧ atb cs i = true ∧ ati ls i = 0) = false := by
      simp [bareB] at hb2 ⊢; intro _; exact hb2
    rw [hb']
    simp
    refine ⟨by omega, _, by omega, hJ _ _ _ ⟨i + 1, -1, rfl, h, .inr ⟨rfl, ho, ?_⟩, rfl, rfl⟩⟩
    intro j hj
    rcases Nat.lt_or_ge j i with h1 | h1
    · exact hbr j h1
    · have : j = i := by omega
      subst this; exact hb2

theorem s_spec_HintOf (W T : Int) (cs : List Bool) (ds ls : List Int) (hb : cs.length < 2 ^ 40) (hd : ds.length < 2 ^ 40) (hl : ls.length < 2 ^ 40) :
    SoundAt Try.prog n_spec_HintOf [.agg [.v (.int .i64 W), .v (.int .i64 T), .sl 1 1 (bools cs)], .sl 1 1 (ints ds), .sl 1 1 (ints ls)] (.tup [.v (.int .i64 (hint1 W T cs ds ls)), .v (.int .i64 (hint2 W T cs ds ls))]) [.bot, .bot, .bot] := by
  refine fn_ok (md := md0) (ms := [false, false, false]) k_spec_HintOf (by simp) ?_
  simp [c_spec_HintOf]
  refine call_on (s_spec_SolveFirst W T cs ds ls hb hd hl) ?_
  cases hx : firstHas W T cs ds ls with
  | none =>
    have eh1 : hint1 W T cs ds ls = -1 := by simp [hint1, hx]
    have eh2 : hint2 W T cs ds ls = 0 := by simp [hint2, hx]
    rw [eh1, eh2]
    simp [resF]
    refine loop_by (fun m E H => H = [some (.box [.v (.int .i64 W), .v (.int .i64 T), .sl 1 1 (bools cs)]), some (.arr 1 [])] ∧
      E = [(1, .sl 1 1 (ints ds)), (2, .sl 1 1 (ints ls)), (3, .lp 0 0 0 0), (8, .ls 1 1 0 0), (9, .v (.bool false)), (10, .v (.int .i64 (-1))), (11, .v (.int .i64 0))]) 0 ⟨by simp, by simp⟩ ?_
    rintro J hJ m E H ⟨rfl, rfl⟩
    simp [c_spec_HintOf_L0]
    (repeat' first | omega | apply And.intro | intro _) <;>
    · refine loop_by (fun m E H => H = [some (.box [.v (.int .i64 W), .v (.int .i64 T), .sl 1 1 (bools cs)]), some (.arr 1 [])] ∧
        E = [(1, .sl 1 1 (ints ds)), (2, .sl 1 1 (ints ls)), (3, .lp 0 0 0 0), (8, .ls 1 1 0 0), (9, .v (.bool false)), (10, .v (.int .i64 (-1))), (12, .v (.int .i64 (ls.length - 1)))]) 0 ⟨rfl, rfl⟩ ?_
      rintro J hJ m E H ⟨rfl, rfl⟩
      by_cases h : (0 : Int) ≤ ls.length - 1
      · simp [c_spec_HintOf_L1, h]
      · simp [c_spec_HintOf_L1, h]
  | some x =>
  obtain ⟨hf, hxl⟩ := firstHas_some hx
  have hok := fairB_ok hf
  obtain ⟨hr, e1, e2, _⟩ := okB_W hok
  have eh1 : hint1 W T cs ds ls = hintC W T cs ds ls := by simp [hint1, hx]
  have eh2 : hint2 W T cs ds ls = if hintC W T cs ds ls < 0 then 0 else ati x (hintC W T cs ds ls) := by simp [hint2, hx]
  rw [eh1, eh2]
  simp [resF]
  refine loop_by (fun m E H => ∃ (i : Nat) (c : Int), m = ls.length - i ∧ i ≤ ls.length ∧ (c = bareI cs ls ∧ 0 ≤ c ∨ c = -1 ∧ ∀ j : Nat, j < i → bareB cs ls j = false) ∧
    H = [some (.box [.v (.int .i64 W), .v (.int .i64 T), .sl 1 1 (bools cs)])] ∧
    E = [(1, .sl 1 1 (ints ds)), (2, .sl 1 1 (ints ls)), (3, .lp 0 0 0 0), (8, .sl 0 1 (ints x)), (9, .v (.bool true)), (10, .v (.int .i64 c)), (11, .v (.int .i64 i))]) ls.length ⟨0, -1, by simp⟩ ?_
  rintro J hJ m E H ⟨i, c, rfl, hi, hc, rfl, rfl⟩
  by_cases h : i < ls.length
  case pos =>
    have next : ∀ c' : Int, (c' = bareI cs ls ∧ 0 ≤ c' ∨ c' = -1 ∧ ∀ j : Nat, j < i + 1 → bareB cs ls j = false) → again J (ls.length - i) [(1, .sl 1 1 (ints ds)), (2, .sl 1 1 (ints ls)), (3, .lp 0 0 0 0), (8, .sl 0 1 (ints x)), (9, .v (.bool true)), (10, .v (.int .i64 c')), (11, .v (.int .i64 (i + 1)))]
        [some (.box [.v (.int .i64 W), .v (.int .i64 T), .sl 1 1 (bools cs)])] := by
      intro c' hc'
      exact ⟨_, by omega, hJ _ _ _ ⟨i + 1, c', rfl, h, hc', rfl, rfl⟩⟩
    have h2 : i < cs.length := by omega
    rcases hc with ⟨rfl, hc0⟩ | ⟨rfl, hbr⟩
    · have hc1 : ¬ bareI cs ls < 0 := by omega
      simp [c_spec_HintOf_L0, h, hc1]
      exact ⟨by omega, next _ (.inl ⟨rfl, hc0⟩)⟩
    have up : bareB cs ls i = false → ∀ j : Nat, j < i + 1 → bareB cs ls j = false := by
      intro hx2 j hj
      rcases Nat.lt_or_ge j i with h1 | h1
      · exact hbr j h1
      · have : j = i := by omega
        subst this; exact hx2
    cases hcc : atb cs i with
    | false =>
      simp [c_spec_HintOf_L0, h, h2, hcc]
      exact ⟨by omega, next _ (.inr ⟨rfl, up (by simp [bareB, hcc])⟩)⟩
    | true =>
    by_cases z : ati ls i = 0
    · have he : bareI cs ls = i := firstI_hit h (by simp [bareB, hcc, z]) hbr
      simp [c_spec_HintOf_L0, h, h2, hcc, z]
      exact ⟨by omega, next _ (.inl ⟨he.symm, by omega⟩)⟩
    · simp [c_spec_HintOf_L0, h, h2, hcc, z]
      exact ⟨by omega, next _ (.inr ⟨rfl, up (by simp [bareB, z])⟩)⟩
  have hi' : i = ls.length := by omega
  subst hi'
  have hcb : c = bareI cs ls := by
    rcases hc with ⟨h1, _⟩ | ⟨h1, h2⟩
    · exact h1
    · rw [h1]; exact (firstI_none h2).symm
  subst hcb
  clear hJ hc
  simp [c_spec_HintOf_L0]
  refine ⟨by omega, ?_⟩
  refine loop_by (fun m E H => ∃ (i : Nat) (c : Int), m = i ∧ i ≤ ls.length ∧ (c = bareI cs ls ∧ (∀ j : Nat, i ≤ j → j < ls.length → hitB W T cs ds ls 1 j = false) ∨ ∃ j : Nat, i ≤ j ∧ j < ls.length ∧ c = j ∧ hitB W T cs ds ls 1 j = true ∧ ∀ j' : Nat, i ≤ j' → j' < j → hitB W T cs ds ls 1 j' = false) ∧
    H = [some (.box [.v (.int .i64 W), .v (.int .i64 T), .sl 1 1 (bools cs)])] ∧
    E = [(1, .sl 1 1 (ints ds)), (2, .sl 1 1 (ints ls)), (3, .lp 0 0 0 0), (8, .sl 0 1 (ints x)), (9, .v (.bool true)), (10, .v (.int .i64 c)), (12, .v (.int .i64 ((i : Int) - 1)))]) ls.length ⟨ls.length, bareI cs ls, rfl, Nat.le_refl _, .inl ⟨rfl, fun j h1 h2 => by omega⟩, rfl, rfl⟩ ?_
  rintro J hJ m E H ⟨i, c, rfl, hi, hc, rfl, rfl⟩
  cases m with
  | zero =>
    have hcc : c = hintC W T cs ds ls := by
      rcases hc with ⟨h1, h2⟩ | ⟨j, h1, h2, h3, h4, h5⟩
      · have ho : oneI W T cs ds ls = -1 := firstI_none fun j hj => h2 j (by omega) hj
        rw [h1, hintC, if_pos (by omega)]
      · have ho : oneI W T cs ds ls = j := firstI_hit h2 h4 fun j' hj' => h5 j' (by omega) hj'
        rw [h3, hintC, if_neg (by omega), ho]
    subst hcc
    rcases hintC_cases W T cs ds ls with h | ⟨k, hk, he⟩
    · simp [c_spec_HintOf_L1, h]
    · have hkx : k < x.length := by omega
      have hk0 : ¬ (k : Int) < 0 := by omega
      simp [c_spec_HintOf_L1, he, hk0, hkx]
  | succ i =>
    have h : i < ls.length := by omega
    have two := s_spec_OptionsOf W T cs ds ls i hb hd hl
    have ho : optsOf W T cs ds ls i = optsI W T cs ds ls i := by simp [optsOf, hf]
    rw [ho] at two
    have hop : (optsI W T cs ds ls i).length ≤ 4 := optTo_length ..
    have ei : ((i : Int) + 1 - 1) = i := by omega
    have next : ∀ c' : Int, (c' = bareI cs ls ∧ (∀ j : Nat, i ≤ j → j < ls.length → hitB W T cs ds ls 1 j = false) ∨ ∃ j : Nat, i ≤ j ∧ j < ls.length ∧ c' = j ∧ hitB W T cs ds ls 1 j = true ∧ ∀ j' : Nat, i ≤ j' → j' < j → hitB W T cs ds ls 1 j' = false) →
        again J (i + 1) [(1, .sl 1 1 (ints ds)), (2, .sl 1 1 (ints ls)), (3, .lp 0 0 0 0), (8, .sl 0 1 (ints x)), (9, .v (.bool true)), (10, .v (.int .i64 c')), (12, .v (.int .i64 ((i : Int) - 1)))]
        [some (.box [.v (.int .i64 W), .v (.int .i64 T), .sl 1 1 (bools cs)])] := by
      intro c' hc'
      exact ⟨_, by omega, hJ _ _ _ ⟨i, c', rfl, by omega, hc', rfl, rfl⟩⟩
    simp [c_spec_HintOf_L1, ei]
    refine call_on two ?_
    by_cases hn : (optsI W T cs ds ls i).length = 1
    · have hbare : 0 ≤ (i : Int) ∧ (i : Int) < cs.length ∧ atb cs i = true ∧ ati ls i = 0 := by
        apply Decidable.byContradiction
        intro hx
        rw [optsI_bare W T cs ds ls i hx] at hn
        simp at hn
      have hh : hitB W T cs ds ls 1 i = true := by simp [hitB, hbare.2.2.1, hbare.2.2.2, hn]
      simp [hn]
      exact ⟨by omega, next _ (.inr ⟨i, Nat.le_refl _, h, rfl, hh, fun j' h1 h2 => by omega⟩)⟩
    · have hn' : ¬ ((optsI W T cs ds ls i).length : Int) = 1 := by omega
      have hh : hitB W T cs ds ls 1 i = false := by simp [hitB, hn']
      simp [hn']
      refine ⟨by omega, next _ ?_⟩
      rcases hc with ⟨h1, h2⟩ | ⟨j, h1, h2, h3, h4, h5⟩
      · refine .inl ⟨h1, fun j hj1 hj2 => ?_⟩
        rcases Nat.lt_or_ge i j with h6 | h6
        · exact h2 j h6 hj2
        · have : j = i := by omega
          subst this; exact hh
      · refine .inr ⟨j, by omega, h2, h3, h4, fun j' hj1 hj2 => ?_⟩
        rcases Nat.lt_or_ge i j' with h6 | h6
        · exact h5 j' h6 hj2
        · have : j' = i := by omega
          subst this; exact hh

theorem t_FnExactHintOf (ds ls : List Int) (hd : ds.length < 2 ^ 21) (hl : ls.length < 2 ^ 21) :
    awp Try.prog md0 c_laws_FnExactHintOf_T0 (Fin [.t 6] 72 3 [false, false, false] (.v (.bool true)) [.bot, .bot, .bot])
      [(1, .sl 1 1 (ints ds)), (2, .sl 1 1 (ints ls)), (11, .ls 1 0 0 ds.length), (12, .ls 1 1 0 ls.length)]
      [some (.arr 1 (ints ds)), some (.arr 1 (ints ls))] := by
  simp [c_laws_FnExactHintOf_T0]
  refine call_on (s_laws_toIntS ds (by omega)) ?_
  simp
  refine call_on (s_laws_eqIntS ds ds (by omega)) ?_
  simp
  refine call_on (s_laws_toIntS ls (by omega)) ?_
  simp
  refine call_on (s_laws_eqIntS ls ls (by omega)) ?_
  simp

theorem s_FnExactHintOf (W T : Int) (cs : List Bool) (ds ls : List Int) (hb : cs.length ≤ 9223372036854775807) :
    SoundAt Try.prog n_laws_FnExactHintOf [.agg [.v (.int .i64 W), .v (.int .i64 T), .sl 1 1 (bools cs)], .sl 1 1 (ints ds), .sl 1 1 (ints ls)] (.v (.bool true)) [.bot, .bot, .bot] := by
  refine fn_ok (md := md0) (ms := [false, false, false]) k_laws_FnExactHintOf (by simp) ?_
  simp [c_laws_FnExactHintOf]
  intro h1 h2
  refine call_on (s_laws_szRegion W T cs 1048576 (by omega) (by omega) hb) ?_
  by_cases h3 : (1048576 : Int) < cs.length
  · simp [h3]
  simp [h3]
  intro _
  refine call_on (s_laws_toRegion W T cs (by omega)) ?_
  simp
  refine call_on (s_laws_toIntS ds (by omega)) ?_
  simp
  refine call_on (s_laws_toIntS ls (by omega)) ?_
  simp
  refine call_on (s_spec_HintOf W T cs ds ls (by omega) (by omega) (by omega)) ?_
  simp
  refine call_on (s_laws_toRegion W T cs (by omega)) ?_
  simp
  refine call_on (s_laws_toIntS ds (by omega)) ?_
  simp
  refine call_on (s_laws_toIntS ls (by omega)) ?_
  simp
  refine call_on (s_impl_HintOf W T cs ds ls (by omega) (by omega) (by omega)) ?_
  simp
  have tail := t_FnExactHintOf ds ls (by omega) (by omega)
  (repeat' first | assumption | apply And.intro) <;>
  · refine call_on (s_laws_toRegion W T cs (by omega)) ?_
    simp
    refine call_on (s_laws_eqRegion W T W T cs cs (by omega)) ?_
    simp
    exact tail

end Go.Proofs.Dev
