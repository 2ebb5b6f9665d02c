/- Contracts of the functions of the program over slots and rows, each proved against the program itself; no condition beyond those that each theorem names. -/
import Derived.Test.YtlcoaglnegibkaaGreatX
import Derived.Test.YtlcoaglnegibkaaGreatZ
import Derived.Test.YtlcoaglnegibkaaGreatJ

set_option linter.unusedSimpArgs false
set_option linter.unusedVariables false

namespace Go.Proofs.Dev
set_option linter.unusedSimpArgs false
set_option maxRecDepth 100000

/-- Who takes ownership: 139 of its second argument. -/
@[simp] def md1 (f : Nat) : List Bool := if f = 100 then [false, true] else md0 f

def bareB (cs : List Bool) (ls : List Int) (k : Nat) : Bool := atb cs k && decide (ati ls k = 0)
def bareI (cs : List Bool) (ls : List Int) : Int := firstI (bareB cs ls) ls.length
/-- All tilings that have the dominoes of a list. -/
def allT (W T : Int) (cs : List Bool) : Nat → List Int → List (List Int)
  | 0, ls => [ls]
  | n + 1, ls => if bareI cs ls < 0 then [ls] else
      (if freeB W T cs ls (bareI cs ls) 1 then allT W T cs n (layI W T ls (bareI cs ls) 1) else []) ++
      (if freeB W T cs ls (bareI cs ls) 2 then allT W T cs n (layI W T ls (bareI cs ls) 2) else [])

theorem allT_length (W T : Int) (cs : List Bool) : ∀ (n : Nat) (ls : List Int), (allT W T cs n ls).length ≤ 2 ^ n
  | 0, ls => by simp [allT]
  | n + 1, ls => by
    have h1 := allT_length W T cs n (layI W T ls (bareI cs ls) 1)
    have h2 := allT_length W T cs n (layI W T ls (bareI cs ls) 2)
    have h3 : 0 < 2 ^ n := Nat.pow_pos (by omega)
    rw [allT]
    split
    · simp only [List.length_singleton]; omega
    · rw [List.length_append]
      have e1 : (if freeB W T cs ls (bareI cs ls) 1 then allT W T cs n (layI W T ls (bareI cs ls) 1) else []).length ≤ 2 ^ n := by
        split
        · exact h1
        · simp
      have e2 : (if freeB W T cs ls (bareI cs ls) 2 then allT W T cs n (layI W T ls (bareI cs ls) 2) else []).length ≤ 2 ^ n := by
        split
        · exact h2
        · simp
      omega

theorem bare_cases (cs : List Bool) (ls : List Int) : bareI cs ls = -1 ∨ ∃ k : Nat, k < ls.length ∧ bareI cs ls = k ∧ atb cs k = true ∧ ati ls k = 0 := by
  rcases firstI_cases (bareB cs ls) ls.length with h | ⟨k, hk, hp, he⟩
  · left; exact h
  · right
    simp only [bareB, Bool.and_eq_true, decide_eq_true_eq] at hp
    exact ⟨k, hk, he, hp.1, hp.2⟩

theorem lay_zeros {W T : Int} {ls : List Int} {k : Nat} {way : Int} (hk : k < ls.length) (hz : ati ls k = 0) (h1 : 1 ≤ way) (h4 : way ≤ 4) : zeros (layI W T ls k way) < zeros ls := by
  have hb : backI way ≠ 0 := by
    have := (backI_back h1 h4).2
    omega
  refine Nat.lt_of_le_of_lt (zeros_set_le hb) ?_
  exact zeros_set_lt (by simpa using hk) (by simpa using hz) (by omega)

theorem s_spec_l2First (W T : Int) (cs : List Bool) (ls : List Int) (hl : ls.length = cs.length) (hb : cs.length < 2 ^ 40) :
    SoundAt Tryz.prog n_spec_l2First [.agg [.v (.int .i64 W), .v (.int .i64 T), .sl 1 1 (bools cs)], .sl 1 1 (ints ls)] (.v (.int .i64 (bareI cs ls))) [.bot, .bot] := by
  refine fn_ok (md := md0) (ms := [false, false]) k_spec_l2First (by simp) ?_
  simp [c_spec_l2First]
  refine loop_by (fun m E H => ∃ i : Nat, m = ls.length - i ∧ i ≤ ls.length ∧ (∀ j : Nat, j < i → bareB cs ls j = false) ∧ H = [some (.box [.v (.int .i64 W), .v (.int .i64 T), .sl 1 1 (bools cs)])] ∧
    E = [(1, .sl 1 1 (ints ls)), (2, .lp 0 0 0 0), (5, .v (.int .i64 i))]) ls.length ⟨0, by simp⟩ ?_
  rintro J hJ m E H ⟨i, rfl, hi, ha, rfl, rfl⟩
  by_cases h : i < ls.length
  case neg =>
    have : i = ls.length := by omega
    subst this
    have e : bareI cs ls = -1 := firstI_none ha
    simp [c_spec_l2First_L0, e]
  have next : bareB cs ls i = false → again J (ls.length - i) [(1, .sl 1 1 (ints ls)), (2, .lp 0 0 0 0), (5, .v (.int .i64 (i + 1)))]
      [some (.box [.v (.int .i64 W), .v (.int .i64 T), .sl 1 1 (bools cs)])] := by
    intro hx
    refine ⟨_, by omega, hJ _ _ _ ⟨i + 1, rfl, h, ?_, rfl, rfl⟩⟩
    intro j hj
    rcases Nat.lt_or_ge j i with h1 | h1
    · exact ha j h1
    · have : j = i := by omega
      subst this; exact hx
  have h2 : i < cs.length := by omega
  cases hc : atb cs i with
  | false =>
    simp [c_spec_l2First_L0, h, h2, hc]
    exact ⟨by omega, next (by simp [bareB, hc])⟩
  | true =>
  by_cases z : ati ls i = 0
  · have e : bareI cs ls = i := firstI_hit h (by simp [bareB, hc, z]) ha
    simp [c_spec_l2First_L0, h, h2, hc, z, e]
  · simp [c_spec_l2First_L0, h, h2, hc, z]
    exact ⟨by omega, next (by simp [bareB, z])⟩

theorem allT_leaf {W T : Int} {cs : List Bool} {ls : List Int} (n : Nat) (h : bareI cs ls < 0) : allT W T cs n ls = [ls] := by
  cases n with
  | zero => rfl
  | succ n => simp [allT, h]

def partT (W T : Int) (cs : List Bool) (n : Nat) (ls : List Int) (cell way : Int) : List (List Int) := if freeB W T cs ls cell way then allT W T cs n (layI W T ls cell way) else []
def accT (W T : Int) (cs : List Bool) (n : Nat) (ls : List Int) (cell : Int) (i : Nat) : List (List Int) := (List.range i).flatMap fun j : Nat => partT W T cs n ls cell (j + 1)
theorem accT_succ (W T : Int) (cs : List Bool) (n : Nat) (ls : List Int) (cell : Int) (i : Nat) : accT W T cs n ls cell (i + 1) = accT W T cs n ls cell i ++ partT W T cs n ls cell (i + 1) := by
  simp [accT, List.range_succ]
theorem partT_length (W T : Int) (cs : List Bool) (n : Nat) (ls : List Int) (cell way : Int) : (partT W T cs n ls cell way).length ≤ 2 ^ n := by
  unfold partT; split
  · exact allT_length ..
  · simp
theorem accT_length (W T : Int) (cs : List Bool) (n : Nat) (ls : List Int) (cell : Int) : ∀ i, (accT W T cs n ls cell i).length ≤ i * 2 ^ n
  | 0 => by simp [accT]
  | i + 1 => by
    have h1 := accT_length W T cs n ls cell i
    have h2 := partT_length W T cs n ls cell (i + 1)
    rw [accT_succ, List.length_append, Nat.succ_mul]
    omega

theorem zeros_pos {ls : List Int} {k : Nat} (h : k < ls.length) (hz : ati ls k = 0) : 0 < zeros ls := by
  have := zeros_set_lt (v := 1) h hz (by omega)
  omega

theorem s_spec_l2All (W T : Int) (cs : List Bool) (hr : regB W T cs = true) : ∀ (n : Nat) (ls : List Int), n ≤ 36 → zeros ls ≤ n → laysB W T cs ls = true →
    SoundAt Tryz.prog n_spec_l2All [.agg [.v (.int .i64 W), .v (.int .i64 T), .sl 1 1 (bools cs)], .os 1 (ints ls)] (.os 1 (oss (allT W T cs n ls))) [.bot, .bot] := by
  intro n
  have h36 := regB_len hr
  induction n with
  | zero =>
    intro ls hn hz hy
    have hl : ls.length = cs.length := by simp only [laysB, Bool.and_eq_true, decide_eq_true_eq] at hy; exact hy.1
    refine fn_ok (md := md1) (ms := [false, false]) k_spec_l2All (by simp) ?_
    simp [c_spec_l2All]
    refine call_on (s_spec_l2First W T cs ls hl (by omega)) ?_
    rcases bare_cases cs ls with h | ⟨k, hk, he, hc, hzk⟩
    · simp [h, allT_leaf, oss_one]
    · have := zeros_pos hk hzk
      omega
  | succ n ih =>
    intro ls hn hz hy
    have hl : ls.length = cs.length := by simp only [laysB, Bool.and_eq_true, decide_eq_true_eq] at hy; exact hy.1
    refine fn_ok (md := md1) (ms := [false, false]) k_spec_l2All (by simp) ?_
    simp [c_spec_l2All]
    refine call_on (s_spec_l2First W T cs ls hl (by omega)) ?_
    rcases bare_cases cs ls with h | ⟨k, hk, he, hc, hzk⟩
    · simp [h, allT_leaf, oss_one]
    have hk0 : ¬ (k : Int) < 0 := by omega
    have hall : allT W T cs (n + 1) ls = accT W T cs n ls k 2 := by
      rw [allT, he, if_neg hk0]
      simp [accT, partT, List.range_succ]
    rw [hall]
    simp [he, hk0]
    refine loop_by (fun m E H => ∃ i : Nat, m = 2 - i ∧ i ≤ 2 ∧ H = [some (.arr 1 (ints ls)), some (.box [.v (.int .i64 W), .v (.int .i64 T), .sl 1 1 (bools cs)]), some (.arr 1 (oss (accT W T cs n ls k i)))] ∧
      E = [(1, .ls 1 0 0 ls.length), (2, .lp 0 1 0 0), (5, .ls 1 2 0 (accT W T cs n ls k i).length), (6, .v (.int .i64 k)), (7, .v (.int .i64 (i + 1)))]) 2 ⟨0, by simp [accT]⟩ ?_
    rintro J hJ m E H ⟨i, rfl, hi, rfl, rfl⟩
    by_cases h : i < 2
    case neg =>
      have : i = 2 := by omega
      subst this
      simp [c_spec_l2All_L0]
    have h' : (i : Int) + 1 ≤ 2 := by omega
    have hsuc := accT_succ W T cs n ls k i
    have next : ∀ (x : List (List Int)), partT W T cs n ls k (i + 1) = x → again J (2 - i) [(1, .ls 1 0 0 ls.length), (2, .lp 0 1 0 0), (5, .ls 1 2 0 ((accT W T cs n ls k i).length + x.length)), (6, .v (.int .i64 k)), (7, .v (.int .i64 (i + 1 + 1)))]
        [some (.arr 1 (ints ls)), some (.box [.v (.int .i64 W), .v (.int .i64 T), .sl 1 1 (bools cs)]), some (.arr 1 (oss (accT W T cs n ls k i) ++ oss x))] := by
      intro x hx
      refine ⟨_, by omega, hJ _ _ _ ⟨i + 1, rfl, h, ?_, ?_⟩⟩
      · rw [hsuc, hx, oss_append]
      · rw [hsuc, hx, List.length_append]; rfl
    have one := s_spec_LayOne W T cs ls k (i + 1) hr hy
    simp [c_spec_l2All_L0, h']
    refine call_on one ?_
    cases hf : freeB W T cs ls k (i + 1) with
    | false =>
      have nx := next [] (by simp [partT, hf])
      simp at nx
      simp
      exact ⟨by omega, nx⟩
    | true =>
      have el : layOneL W T cs ls k (i + 1) = layI W T ls k (i + 1) := by simp [layOneL, hf]
      rw [el]
      have hy2 := lay_ok hr hy hf
      have hz2 : zeros (layI W T ls k (i + 1)) < zeros ls := lay_zeros hk hzk (by omega) (by omega)
      have two := ih (layI W T ls k (i + 1)) (by omega) (by omega) hy2
      have nx := next (allT W T cs n (layI W T ls k (i + 1))) (by simp [partT, hf])
      have hll := layI_length W T ls k (i + 1)
      have htk : (ints (layI W T ls k (i + 1))).take ls.length = ints (layI W T ls k (i + 1)) := List.take_of_length_le (by simp [hll])
      have b1 := allT_length W T cs n (layI W T ls k (i + 1))
      have b0 : 2 ^ n ≤ 2 ^ 36 := Nat.pow_le_pow_right (by omega) (by omega)
      have b2 := accT_length W T cs n ls k i
      have b3 : i * 2 ^ n ≤ 2 * 2 ^ n := Nat.mul_le_mul_right _ (by omega)
      have b4 : (accT W T cs n ls k i).length + (allT W T cs n (layI W T ls k (i + 1))).length ≤ 206158430208 := by omega
      simp [hll, htk]
      refine call_on two ?_
      simp [hll, htk]
      exact ⟨by omega, by omega, nx⟩

end Go.Proofs.Dev

namespace Go.Proofs.Dev
set_option linter.unusedSimpArgs false
set_option maxRecDepth 100000

def noneL (cs : List Bool) : List Int := List.replicate cs.length 0
theorem ati_none (cs : List Bool) (k : Int) : ati (noneL cs) k = 0 := by
  unfold ati noneL
  rw [List.getD_eq_getElem?_getD, List.getElem?_replicate]
  split <;> rfl
theorem lays_none (W T : Int) (cs : List Bool) : laysB W T cs (noneL cs) = true := by
  simp only [laysB, Bool.and_eq_true, decide_eq_true_eq, allB_iff]
  refine ⟨by simp [noneL], fun k _ => ?_⟩
  simp only [layAt, decide_eq_true_eq]
  exact .inl (ati_none cs k)

theorem allT_mem (W T : Int) (cs : List Bool) : ∀ (n : Nat) (ls p : List Int), p ∈ allT W T cs n ls → p.length = ls.length
  | 0, ls, p, h => by simp [allT] at h; rw [h]
  | n + 1, ls, p, h => by
    rw [allT] at h
    split at h
    · simp at h; rw [h]
    · rw [List.mem_append] at h
      rcases h with h | h <;> split at h
      · rw [allT_mem W T cs n _ p h, layI_length]
      · cases h
      · rw [allT_mem W T cs n _ p h, layI_length]
      · cases h

def tilesI (W T : Int) (cs : List Bool) : List (List Int) := if regB W T cs then allT W T cs cs.length (noneL cs) else []
theorem tiles_mem {W T : Int} {cs : List Bool} {p : List Int} (h : p ∈ tilesI W T cs) : p.length = cs.length := by
  unfold tilesI at h
  split at h
  · rw [allT_mem W T cs _ _ p h]; simp [noneL]
  · cases h
theorem tiles_length {W T : Int} {cs : List Bool} : (tilesI W T cs).length ≤ 68719476736 := by
  unfold tilesI
  split
  · rename_i hr
    have h1 := allT_length W T cs cs.length (noneL cs)
    have h2 : 2 ^ cs.length ≤ 2 ^ 36 := Nat.pow_le_pow_right (by omega) (regB_len hr)
    omega
  · simp

theorem s_spec_LaidBare (W T : Int) (cs : List Bool) (hb : cs.length < 2 ^ 40) :
    SoundAt Tryz.prog n_spec_LaidBare [.agg [.v (.int .i64 W), .v (.int .i64 T), .sl 1 1 (bools cs)]] (.os 1 (ints (if regB W T cs then noneL cs else []))) [.bot] := by
  refine fn_ok (md := md0) (ms := [false]) k_spec_LaidBare (by simp) ?_
  simp [c_spec_LaidBare]
  refine call_on (s_spec_RegionValid W T cs hb) ?_
  cases hr : regB W T cs with
  | false => simp
  | true =>
  simp [noneL, ints_rep]
  exact ⟨by omega, List.take_of_length_le (by simp)⟩

theorem s_spec_TilingsAll (W T : Int) (cs : List Bool) (hb : cs.length < 2 ^ 40) :
    SoundAt Tryz.prog n_spec_TilingsAll [.agg [.v (.int .i64 W), .v (.int .i64 T), .sl 1 1 (bools cs)]] (.os 1 (oss (tilesI W T cs))) [.bot] := by
  refine fn_ok (md := md1) (ms := [false]) k_spec_TilingsAll (by simp) ?_
  simp [c_spec_TilingsAll]
  refine call_on (s_spec_RegionValid W T cs hb) ?_
  cases hr : regB W T cs with
  | false => simp [tilesI, hr]
  | true =>
  have one := s_spec_LaidBare W T cs hb
  rw [if_pos hr] at one
  have hn : (noneL cs).length = cs.length := by simp [noneL]
  have hz : zeros (noneL cs) ≤ cs.length := by have := zeros_le (noneL cs); omega
  have two := s_spec_l2All W T cs hr cs.length (noneL cs) (regB_len hr) hz (lays_none W T cs)
  have et : tilesI W T cs = allT W T cs cs.length (noneL cs) := by simp [tilesI, hr]
  have htk : (ints (noneL cs)).take cs.length = ints (noneL cs) := List.take_of_length_le (by simp [hn])
  rw [et]
  simp
  (repeat' first | assumption | omega | apply And.intro) <;>
  · refine call_on one ?_
    simp [hn, htk]
    (repeat' first | assumption | omega | apply And.intro) <;>
    · refine call_on two ?_
      simp [hn, htk]

def solsI (W T : Int) (cs : List Bool) (ds : List Int) : List (List Int) := if (regB W T cs && digsB cs ds) = true then (tilesI W T cs).filter (solvedB W T cs ds) else []

theorem filter_succ {ps : List (List Int)} {i : Nat} (f : List Int → Bool) (h : i < ps.length) : (ps.take (i + 1)).filter f = (ps.take i).filter f ++ if f (pti ps i) then [pti ps i] else [] := by
  rw [List.take_succ_eq_append_getElem h, List.filter_append, pti_get h]
  congr 1
  cases hf : f ps[i] <;> simp [hf]

theorem RL_reg {W T : Int} {cs : List Bool} : ∀ (C : Ctx) (S : List Nat) (us : List Value), RL C [.agg [.v (.int .i64 W), .v (.int .i64 T), .sl 1 1 (bools cs)]] S us → S = [] := by
  intro C S us h
  rw [RL] at h
  obtain ⟨S1, S2, u, us', rfl, rfl, h1, h2⟩ := h
  rw [RL] at h2
  rw [R] at h1
  obtain ⟨vs, _, h1⟩ := h1
  rw [RL] at h1
  obtain ⟨A1, A2, _, _, rfl, _, a1, h1⟩ := h1
  rw [RL] at h1
  obtain ⟨A3, A4, _, _, rfl, _, a3, h1⟩ := h1
  rw [RL] at h1
  obtain ⟨A5, A6, _, _, rfl, _, a5, h1⟩ := h1
  rw [RL] at h1
  rw [R] at a1
  rw [R] at a3
  rw [R] at a5
  rw [a1.1, a3.1, a5.1, h1.1, h2.1]
  rfl

theorem s_spec_TilingsAllF (W T : Int) (cs : List Bool) (hb : cs.length < 2 ^ 40) :
    SoundAt Tryz.prog n_spec_TilingsAll [.agg [.v (.int .i64 W), .v (.int .i64 T), .sl 1 1 (bools cs)]] (.sl 0 1 (sls 0 (tilesI W T cs))) [.bot] := by
  have h := SoundAt.frozen (n := 1) RL_reg (s_spec_TilingsAll W T cs hb)
  simpa [vw] using h

theorem s_spec_SolutionsAll (W T : Int) (cs : List Bool) (ds : List Int) (hb : cs.length < 2 ^ 40) (hd : ds.length < 2 ^ 40) :
    SoundAt Tryz.prog n_spec_SolutionsAll [.agg [.v (.int .i64 W), .v (.int .i64 T), .sl 1 1 (bools cs)], .sl 1 1 (ints ds)] (.os 1 (sls 0 (solsI W T cs ds))) [.bot, .bot] := by
  refine fn_ok (md := md1) (ms := [false, false]) k_spec_SolutionsAll (by simp) ?_
  simp [c_spec_SolutionsAll]
  refine call_on (s_spec_TilingsAllF W T cs hb) ?_
  simp
  have hpv := s_spec_PuzzleValid W T cs ds hb hd
  have hmem : ∀ p ∈ tilesI W T cs, p.length = cs.length := fun p hp => tiles_mem hp
  have htl := tiles_length (W := W) (T := T) (cs := cs)
  have esol : solsI W T cs ds = if (regB W T cs && digsB cs ds) = true then (tilesI W T cs).filter (solvedB W T cs ds) else [] := rfl
  generalize tilesI W T cs = ts at *
  refine loop_by (fun m E H => ∃ i : Nat, m = ts.length - i ∧ i ≤ ts.length ∧ (i = 0 ∨ (regB W T cs && digsB cs ds) = true) ∧ H = [some (.box [.v (.int .i64 W), .v (.int .i64 T), .sl 1 1 (bools cs)]), some (.arr 1 (sls 0 ((ts.take i).filter (solvedB W T cs ds))))] ∧
    E = [(1, .sl 1 1 (ints ds)), (2, .lp 0 0 0 0), (5, .ls 1 1 0 ((ts.take i).filter (solvedB W T cs ds)).length), (6, .sl 0 1 (sls 0 ts)), (7, .v (.int .i64 i))]) ts.length ⟨0, by simp⟩ ?_
  rintro J hJ m E H ⟨i, rfl, hi, hp0, rfl, rfl⟩
  by_cases h : i < ts.length
  case neg =>
    have : i = ts.length := by omega
    subst this
    have e2 : (ts.take ts.length).filter (solvedB W T cs ds) = solsI W T cs ds := by
      rw [List.take_length, esol]
      rcases hp0 with h0 | h0
      · have : ts = [] := List.eq_nil_of_length_eq_zero h0
        subst this
        simp
      · rw [if_pos h0]
    rw [e2]
    simp [c_spec_SolutionsAll_L0]
    exact List.take_of_length_le (by simp)
  simp [c_spec_SolutionsAll_L0, h]
  refine call_on hpv ?_
  cases hp : (regB W T cs && digsB cs ds) with
  | false =>
    have : i = 0 := by rcases hp0 with h0 | h0; exact h0; rw [hp] at h0; cases h0
    subst this
    have e2 : solsI W T cs ds = [] := by rw [esol, if_neg (by simp [hp])]
    simp [e2]
  | true =>
  have hr : regB W T cs = true := by simp only [Bool.and_eq_true] at hp; exact hp.1
  have h36 := regB_len hr
  have hpl := hmem _ (pti_mem h)
  have one := s_spec_SolvedOk W T cs ds (pti ts i) hb hd (by omega)
  have hsuc := filter_succ (solvedB W T cs ds) h
  have hlen : ((ts.take i).filter (solvedB W T cs ds)).length ≤ i := by
    refine Nat.le_trans (List.length_filter_le _ _) ?_
    rw [List.length_take]; omega
  simp [h]
  (repeat' first | assumption | omega | apply And.intro) <;>
  · refine call_on one ?_
    cases hs : solvedB W T cs ds (pti ts i) with
    | false =>
      rw [if_neg (by simp [hs]), List.append_nil] at hsuc
      simp [h]
      exact ⟨by omega, _, by omega, hJ _ _ _ ⟨i + 1, rfl, h, .inr hp, by rw [hsuc], by rw [hsuc]; rfl⟩⟩
    | true =>
      rw [if_pos hs] at hsuc
      simp [h]
      exact ⟨by omega, by omega, _, by omega, hJ _ _ _ ⟨i + 1, rfl, h, .inr hp, by rw [hsuc]; simp [sls], by rw [hsuc]; simp⟩⟩

end Go.Proofs.Dev

namespace Go.Proofs.Dev
set_option linter.unusedSimpArgs false

theorem firstI_neg {p : Nat → Bool} {n : Nat} (h : firstI p n < 0) : ∀ j, j < n → p j = false := by
  intro j hj
  cases hx : p j with
  | false => rfl
  | true =>
    exfalso
    have hm : ∃ x ∈ List.range n, p x = true := ⟨j, by simpa using hj, hx⟩
    have hs := List.find?_isSome.2 hm
    unfold firstI at h
    split at h
    · omega
    · rename_i h9; rw [h9] at hs; cases hs

theorem full_of_bare {cs : List Bool} {ls : List Int} (hl : ls.length = cs.length) (h : bareI cs ls < 0) : fullB cs ls = true := by
  rw [fullB, allB_iff]
  intro k hk
  have h1 := firstI_neg h k (by omega)
  simp only [bareB] at h1
  simp only [fullAt, h1]
  rfl

theorem allT_full {W T : Int} {cs : List Bool} (hr : regB W T cs = true) : ∀ (n : Nat) (ls : List Int), zeros ls ≤ n → laysB W T cs ls = true → ∀ p ∈ allT W T cs n ls, laysB W T cs p = true ∧ fullB cs p = true := by
  intro n
  induction n with
  | zero =>
    intro ls hz hy p hp
    have hl : ls.length = cs.length := by simp only [laysB, Bool.and_eq_true, decide_eq_true_eq] at hy; exact hy.1
    simp only [allT, List.mem_singleton] at hp
    subst hp
    refine ⟨hy, full_of_bare hl ?_⟩
    rcases bare_cases cs p with h | ⟨k, hk, he, hc, hzk⟩
    · omega
    · have := zeros_pos hk hzk
      omega
  | succ n ih =>
    intro ls hz hy p hp
    have hl : ls.length = cs.length := by simp only [laysB, Bool.and_eq_true, decide_eq_true_eq] at hy; exact hy.1
    rw [allT] at hp
    split at hp
    · rename_i hb
      simp only [List.mem_singleton] at hp
      subst hp
      exact ⟨hy, full_of_bare hl hb⟩
    · rename_i hb
      rcases bare_cases cs ls with h | ⟨k, hk, he, hc, hzk⟩
      · omega
      rw [he] at hp
      have step : ∀ way : Int, 1 ≤ way → way ≤ 4 → freeB W T cs ls k way = true → p ∈ allT W T cs n (layI W T ls k way) → laysB W T cs p = true ∧ fullB cs p = true := by
        intro way w1 w4 hf hm
        have hz2 : zeros (layI W T ls k way) < zeros ls := lay_zeros hk hzk w1 w4
        exact ih (layI W T ls k way) (by omega) (lay_ok hr hy hf) p hm
      rw [List.mem_append] at hp
      rcases hp with hp | hp
      · split at hp
        · rename_i hf; exact step 1 (by omega) (by omega) hf hp
        · cases hp
      · split at hp
        · rename_i hf; exact step 2 (by omega) (by omega) hf hp
        · cases hp

/-- For a valid puzzle: of the tilings those solve it whose pairs are fair. -/
theorem sols_fair {W T : Int} {cs : List Bool} {ds : List Int} (h : (regB W T cs && digsB cs ds) = true) : solsI W T cs ds = (tilesI W T cs).filter (fun t => onceB (pairsI W T ds t)) := by
  have hr : regB W T cs = true := by simp only [Bool.and_eq_true] at h; exact h.1
  have hd : digsB cs ds = true := by simp only [Bool.and_eq_true] at h; exact h.2
  have hn : (noneL cs).length = cs.length := by simp [noneL]
  have hz : zeros (noneL cs) ≤ cs.length := by have := zeros_le (noneL cs); omega
  rw [solsI, if_pos h]
  apply List.filter_congr
  intro t ht
  rw [tilesI, if_pos hr] at ht
  obtain ⟨h1, h2⟩ := allT_full hr cs.length (noneL cs) hz (lays_none W T cs) t ht
  simp only [solvedB, fairB, okB, hr, hd, h1, h2, Bool.true_and, Bool.and_true]

end Go.Proofs.Dev
