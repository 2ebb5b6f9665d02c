/- Contracts of the functions of the program over slots and rows, each proved against the program itself; no condition beyond those that each theorem names. -/
import Derived.Test.YtlcoaglnegibkaaGreatG

set_option linter.unusedSimpArgs false
set_option linter.unusedVariables false

namespace Go.Proofs.Dev
set_option linter.unusedSimpArgs false
set_option maxRecDepth 100000

theorem s_spec_LaidOk (W T : Int) (cs : List Bool) (ls : List Int) (hb : cs.length < 2 ^ 40) (hd : ls.length < 2 ^ 40) :
    SoundAt Tryz.prog n_spec_LaidOk [.agg [.v (.int .i64 W), .v (.int .i64 T), .sl 1 1 (bools cs)], .sl 1 1 (ints ls)] (.v (.bool (regB W T cs && laysB W T cs ls))) [.bot, .bot] := by
  refine fn_ok (md := md0) (ms := [false, false]) k_spec_LaidOk (by simp) ?_
  simp [c_spec_LaidOk]
  refine call_on (s_spec_RegionValid W T cs hb) ?_
  simp
  refine ⟨fun hr => ⟨fun hl => ?_, fun hl => ?_⟩, fun hr => ?_⟩
  · intro _
    simp [laysB]; omega
  · have hl' : ls.length = cs.length := by omega
    obtain ⟨w1, w2, t1, t2, l1, _⟩ := regB_W hr
    refine loop_by (fun m E H => ∃ i : Nat, m = ls.length - i ∧ i ≤ ls.length ∧ allB i (fun k => layAt W T cs ls k) = true ∧ H = [some (.box [.v (.int .i64 W), .v (.int .i64 T), .sl 1 1 (bools cs)])] ∧ E = [(1, .sl 1 1 (ints ls)), (2, .lp 0 0 0 0), (5, .v (.int .i64 i))]) ls.length ⟨0, by simp [allB_zero]⟩ ?_
    rintro J hJ m E H ⟨i, rfl, hi, ha, rfl, rfl⟩
    by_cases h : i < ls.length
    · have h2 : i < cs.length := by omega
      have next : layAt W T cs ls i = true → again J (ls.length - i) [(1, .sl 1 1 (ints ls)), (2, .lp 0 0 0 0), (5, .v (.int .i64 (i + 1)))] [some (.box [.v (.int .i64 W), .v (.int .i64 T), .sl 1 1 (bools cs)])] :=
        fun hd => ⟨_, by omega, hJ _ _ _ ⟨i + 1, rfl, h, by rw [allB_succ, ha, hd]; rfl, rfl, rfl⟩⟩
      have stop : layAt W T cs ls i = false → (regB W T cs && laysB W T cs ls) = false := fun hd => by rw [hr, Bool.true_and]; simp only [laysB, hl', decide_true, Bool.true_and]; exact allB_false h2 hd
      by_cases z : ati ls i = 0
      · simp [c_spec_LaidOk_L0, h, h2, z]
        exact ⟨by omega, next (by simp [layAt, z])⟩
      by_cases rg : 1 ≤ ati ls i ∧ ati ls i ≤ 4
      case neg =>
        simp [c_spec_LaidOk_L0, h, h2, z]
        refine call_on (s_spec_l1In (ati ls i) 1 4) ?_
        have hs := stop (by simp [layAt, z]; omega)
        have hx : (decide (1 ≤ ati ls i) && decide (ati ls i ≤ 4)) = false := by simp; omega
        simp [hx, hs]
      cases hc : atb cs i with
      | false =>
        simp [c_spec_LaidOk_L0, h, h2, z]
        refine call_on (s_spec_l1In (ati ls i) 1 4) ?_
        have hs := stop (by simp [layAt, z, hc])
        simp [rg, hs, hc, h2]
      | true =>
        have hst := stepI_range (T := T) (k := i) (way := ati ls i) w1 (by omega) (by omega)
        have one : SoundAt Tryz.prog n_spec_l2Step [.agg [.v (.int .i64 W), .v (.int .i64 T), .sl 1 1 (bools cs)], .v (.int .i64 i), .v (.int .i64 (ati ls i))] (.v (.int .i64 (stepI W T i (ati ls i)))) [.bot, .bot, .bot] := s_spec_l2Step W T cs i (ati ls i) hr (by omega) (by omega)
        have two := s_spec_l2Back (ati ls i) (by omega) (by omega)
        simp [layAt, z, rg, hc] at next stop
        generalize hto : stepI W T i (ati ls i) = to at *
        simp [c_spec_LaidOk_L0, h, h2, z]
        refine call_on (s_spec_l1In (ati ls i) 1 4) ?_
        simp [rg, hc, h2]
        rcases hst with hst | ⟨hst, hst2, -, -⟩
        · subst hst
          have hs := stop (by omega) hr
          (repeat' first | assumption | omega | apply And.intro | intro _) <;> first
            | assumption
            | (refine call_on one ?_; simp [hs])
        · have e1 : ¬ to < 0 := by omega
          have e2 : to < cs.length := by omega
          have e3 : to < ls.length := by omega
          cases hct : atb cs to with
          | false =>
            have hs := stop (by simp [hct]) hr
            (repeat' first | assumption | omega | apply And.intro | intro _) <;> first
              | assumption
              | (refine call_on one ?_; simp [hs, e1, e2, e3, hst, hct])
          | true =>
            simp [hst, hct] at next stop
            (repeat' first | assumption | omega | apply And.intro | intro _) <;> first
              | assumption
              | (refine call_on one ?_
                 simp [e1, e2, e3, hst, hct, h]
                 (repeat' first | assumption | omega | apply And.intro | intro _) <;> first
                  | assumption
                  | (refine call_on two ?_
                     simp [e1, e2, e3, hst, hct, h]
                     (repeat' first | assumption | omega | apply And.intro | intro _) <;> first
                      | assumption
                      | omega
                      | exact next (by assumption)
                      | exact stop (by assumption) (by assumption)))
    · have : i = ls.length := by omega
      subst this
      simp [c_spec_LaidOk_L0]
      simp [laysB, hr, hl'] at ha ⊢
      exact ha
  · simp [hr]

end Go.Proofs.Dev

namespace Go.Proofs.Dev
set_option linter.unusedSimpArgs false
set_option maxRecDepth 100000

/-- A puzzle and its dominoes are in order. -/
def okB (W T : Int) (cs : List Bool) (ds ls : List Int) : Bool := regB W T cs && (digsB cs ds && laysB W T cs ls)

theorem okB_W {W T : Int} {cs : List Bool} {ds ls : List Int} (h : okB W T cs ds ls = true) : regB W T cs = true ∧ ds.length = cs.length ∧ ls.length = cs.length ∧
    ∀ k : Nat, k < cs.length → digAt cs ds k = true ∧ layAt W T cs ls k = true := by
  simp only [okB, digsB, laysB, Bool.and_eq_true, decide_eq_true_eq, allB_iff] at h
  obtain ⟨h1, ⟨h2, h3⟩, h4, h5⟩ := h
  exact ⟨h1, h2, h4, fun k hk => ⟨h3 k (by omega), h5 k (by omega)⟩⟩

/-- What a first cell of a domino knows. -/
theorem okB_first {W T : Int} {cs : List Bool} {ds ls : List Int} (h : okB W T cs ds ls = true) {k : Nat} (hk : k < cs.length) (hw : ati ls k = 1 ∨ ati ls k = 2) :
    0 ≤ stepI W T k (ati ls k) ∧ stepI W T k (ati ls k) < cs.length ∧ (0 ≤ ati ds k ∧ ati ds k ≤ 6) ∧ (0 ≤ ati ds (stepI W T k (ati ls k)) ∧ ati ds (stepI W T k (ati ls k)) ≤ 6) := by
  obtain ⟨hr, h1, h2, h3⟩ := okB_W h
  obtain ⟨w1, w2, t1, t2, l1, _⟩ := regB_W hr
  obtain ⟨d1, p1⟩ := h3 k hk
  have hst := stepI_range (T := T) (k := k) (way := ati ls k) w1 (by omega) (by omega)
  simp only [layAt, decide_eq_true_eq] at p1
  rcases p1 with p1 | ⟨_, _, pc, p0, pt, _⟩
  · omega
  generalize hto : stepI W T k (ati ls k) = to at *
  have d2 := (h3 to.toNat (by omega)).1
  rw [show ((to.toNat : Nat) : Int) = to by omega] at d2
  simp only [digAt, pc, pt, if_true, decide_eq_true_eq] at d1 d2
  exact ⟨p0, by omega, d1, d2⟩

theorem s_spec_PairsOf (W T : Int) (cs : List Bool) (ds ls : List Int) (hb : cs.length < 2 ^ 40) (hd : ds.length < 2 ^ 40) (hl : ls.length < 2 ^ 40) :
    SoundAt Tryz.prog n_spec_PairsOf [.agg [.v (.int .i64 W), .v (.int .i64 T), .sl 1 1 (bools cs)], .sl 1 1 (ints ds), .sl 1 1 (ints ls)] (.os 1 (ints (if okB W T cs ds ls then pairsI W T ds ls else []))) [.bot, .bot, .bot] := by
  refine fn_ok (md := md0) (ms := [false, false, false]) k_spec_PairsOf (by simp) ?_
  simp [c_spec_PairsOf]
  refine loop_by (fun m E H => ∃ i : Nat, m = ls.length - i ∧ i ≤ ls.length ∧ (i = 0 ∨ okB W T cs ds ls = true) ∧ H = [some (.box [.v (.int .i64 W), .v (.int .i64 T), .sl 1 1 (bools cs)]), some (.arr 1 (ints (pairsTo W T ds ls i)))] ∧
    E = [(1, .sl 1 1 (ints ds)), (2, .sl 1 1 (ints ls)), (3, .lp 0 0 0 0), (7, .ls 1 1 0 (pairsTo W T ds ls i).length), (8, .v (.int .i64 i))]) ls.length ⟨0, by simp [pairsTo]⟩ ?_
  rintro J hJ m E H ⟨i, rfl, hi, hz, rfl, rfl⟩
  by_cases h : i < ls.length
  case neg =>
    have : i = ls.length := by omega
    subst this
    simp [c_spec_PairsOf_L0]
    rcases hz with hz | hz
    · have : ls = [] := List.eq_nil_of_length_eq_zero hz
      subst this
      simp [pairsI, pairsTo]
    · simp [hz, pairsI]
  simp [c_spec_PairsOf_L0, h]
  refine call_on (s_spec_PuzzleValid W T cs ds hb hd) ?_
  have ok0 : okB W T cs ds ls = false → i = 0 := fun h => by rcases hz with hz | hz; exact hz; rw [h] at hz; cases hz
  cases hp : (regB W T cs && digsB cs ds) with
  | false =>
    have hn : okB W T cs ds ls = false := by simp only [okB, ← Bool.and_assoc, hp, Bool.false_and]
    have := ok0 hn; subst this
    simp [hn, pairsTo]
  | true =>
  simp
  refine call_on (s_spec_LaidOk W T cs ls hb hl) ?_
  cases hp2 : (regB W T cs && laysB W T cs ls) with
  | false =>
    have hn : okB W T cs ds ls = false := by
      simp only [Bool.and_eq_true] at hp
      rw [hp.1, Bool.true_and] at hp2
      simp [okB, hp2]
    have := ok0 hn; subst this
    simp [hn, pairsTo]
  | true =>
  have hok : okB W T cs ds ls = true := by
    simp only [Bool.and_eq_true] at hp hp2
    simp [okB, hp, hp2]
  obtain ⟨hr, e1, e2, _⟩ := okB_W hok
  have hlen := pairsTo_length W T ds ls i
  have hl36 := regB_len hr
  have hsuc := pairsTo_succ W T ds ls i
  have next : ∀ (x : List Int), pairsTo W T ds ls (i + 1) = pairsTo W T ds ls i ++ x → again J (ls.length - i) [(1, .sl 1 1 (ints ds)), (2, .sl 1 1 (ints ls)), (3, .lp 0 0 0 0), (7, .ls 1 1 0 ((pairsTo W T ds ls i).length + x.length)), (8, .v (.int .i64 (i + 1)))]
      [some (.box [.v (.int .i64 W), .v (.int .i64 T), .sl 1 1 (bools cs)]), some (.arr 1 (ints (pairsTo W T ds ls i) ++ ints x))] := by
    intro x hx
    refine ⟨_, by omega, hJ _ _ _ ⟨i + 1, rfl, h, .inr hok, ?_, ?_⟩⟩
    · rw [hx, ints_append]
    · rw [hx, List.length_append]; rfl
  have hds : i < ds.length := by omega
  by_cases hw : ati ls i = 1 ∨ ati ls i = 2
  · obtain ⟨o1, o2, o3, o4⟩ := okB_first hok (k := i) (by omega) hw
    have one : SoundAt Tryz.prog n_spec_l2Step [.agg [.v (.int .i64 W), .v (.int .i64 T), .sl 1 1 (bools cs)], .v (.int .i64 i), .v (.int .i64 (ati ls i))] (.v (.int .i64 (stepI W T i (ati ls i)))) [.bot, .bot, .bot] := s_spec_l2Step W T cs i (ati ls i) hr (by omega) (by omega)
    have two := s_spec_PairOf (ati ds i) (ati ds (stepI W T i (ati ls i))) o3 o4
    have next1 := next _ (by rw [hsuc, if_pos hw])
    clear hsuc next
    simp at next1
    generalize hto : stepI W T i (ati ls i) = to at *
    have o5 : to < ds.length := by omega
    have hb : (pairsTo W T ds ls i).length ≤ 36 := by omega
    rcases hw with hw | hw <;> rw [hw] at one <;>
    · simp [h, hw, hds]
      (repeat' first | assumption | apply And.intro) <;>
      · refine call_on one ?_
        simp [o1, o5, hds]
        (repeat' first | assumption | apply And.intro) <;>
        · refine call_on two ?_
          simp
          exact ⟨by omega, by omega, next1⟩
  · have hw1 : ¬ ati ls i = 1 := fun e => hw (.inl e)
    have hw2 : ¬ ati ls i = 2 := fun e => hw (.inr e)
    simp [h, hw1, hw2]
    rw [if_neg hw, List.append_nil] at hsuc
    refine ⟨by omega, _, by omega, hJ _ _ _ ⟨i + 1, rfl, h, .inr hok, ?_, ?_⟩⟩ <;> rw [hsuc]
    rfl

end Go.Proofs.Dev
