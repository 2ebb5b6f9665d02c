/- Contracts of the functions of the program over slots and rows, each proved against the program itself; no condition beyond those that each theorem names. -/
import Derived.Test.YtfkmfobbgoflgaaAO

set_option linter.unusedSimpArgs false
set_option linter.unusedVariables false

namespace Go.Proofs.Dev
set_option linter.unusedSimpArgs false
set_option maxRecDepth 100000

theorem s_spec_TilingsMany (W T : Int) (cs : List Bool) (hb : cs.length < 2 ^ 40) :
    SoundAt Try.prog n_spec_TilingsMany [.agg [.v (.int .i64 W), .v (.int .i64 T), .sl 1 1 (bools cs)]] (.v (.int .i64 (tmI W T cs))) [.bot] := by
  refine fn_ok (md := md0) (ms := [false]) k_spec_TilingsMany (by simp) ?_
  simp [c_spec_TilingsMany]
  refine call_on (s_spec_RegionValid W T cs hb) ?_
  cases hr : regB W T cs with
  | false => simp [tmI, hr]
  | true =>
  have h36 := regB_len hr
  obtain ⟨w1, w2, t1, t2, l1, _⟩ := regB_W hr
  simp
  refine loop_by (fun m E H => ∃ (c : Nat) (P : List (Nat × Nat)), m = cs.length - c ∧ c ≤ cs.length ∧ OkP W T (freeF cs) cs.length c (cntF W T cs.length 0 (freeF cs)) P ∧
    H = [tmBox W T cs, some (.arr 1 (ints (fsL P))), some (.arr 1 (ints (snL P)))] ∧
    E = [(1, .lp 0 0 0 0), (3, .ls 1 1 0 P.length), (4, .ls 1 2 0 P.length), (5, .v (.int .i64 c))]) cs.length ⟨0, [(0, 1)], rfl, by omega, okP_start w1, by simp [fsL, snL, ints], by simp⟩ ?_
  rintro J hJ m E H ⟨c, P, rfl, hc', hP, rfl, rfl⟩
  by_cases hc : c < cs.length
  · simp [c_spec_TilingsMany_L3, hc]
    refine tm_L2 W T cs hr c _ hc P hP rfl rfl ?_
    intro Q hQ
    simp
    exact ⟨by omega, _, by omega, hJ _ _ _ ⟨c + 1, Q, rfl, hc, mid_end hP hQ, rfl, by simp⟩⟩
  have : c = cs.length := by omega
  subst this
  obtain ⟨e1, e2⟩ := okP_end hP
  have hPs : wsum (fun _ => 1) P ≤ 2 ^ 36 := Nat.le_trans hP.sum (Nat.pow_le_pow_right (by omega) h36)
  have hPl : P.length ≤ 2 ^ 36 := Nat.le_trans hP.len (Nat.pow_le_pow_right (by omega) h36)
  have hfin : tmI W T cs = ((wsum (fun _ => 1) P : Nat) : Int) := by rw [tmI, if_pos hr, e2]
  rw [hfin]
  simp [c_spec_TilingsMany_L3]
  clear hJ J
  refine loop_by (fun m E H => ∃ k : Nat, m = P.length - k ∧ k ≤ P.length ∧
    H = [some (.arr 1 (ints (fsL P))), some (.arr 1 (ints (snL P)))] ∧
    E = [(3, .ls 1 0 0 P.length), (4, .ls 1 1 0 P.length), (16, .v (.int .i64 (wsum (fun _ => 1) (P.take k)))), (17, .v (.int .i64 k))]) P.length ⟨0, by simp [wsum]⟩ ?_
  rintro J hJ m E H ⟨k, rfl, hk', rfl, rfl⟩
  by_cases hk : k < P.length
  · have h0 : ati (fsL P) k = 0 := by
      rw [fsL_at hk]
      have := e1 P[k] (List.getElem_mem hk)
      omega
    have h1 := snL_at hk
    have h2 : wsum (fun _ => 1) (P.take (k + 1)) = wsum (fun _ => 1) (P.take k) + P[k].2 := by
      rw [List.take_succ_eq_append_getElem hk, wsum_append]; simp [wsum]
    have h3 := wsum_take (fun _ => 1) P (k + 1)
    simp [c_spec_TilingsMany_L4, hk, h0, h1]
    exact ⟨by omega, by omega, _, by omega, hJ _ _ _ ⟨k + 1, rfl, hk, rfl, by rw [h2]; simp⟩⟩
  · have : k = P.length := by omega
    subst this
    simp [c_spec_TilingsMany_L4]

theorem manyOf_set_le : ∀ (cs : List Bool) (i : Nat), manyOf (cs.set i false) ≤ manyOf cs
  | [], i => by simp
  | c :: cs, 0 => by simp [manyOf]
  | c :: cs, i + 1 => by have := manyOf_set_le cs i; simp [manyOf]; omega

/-- A region without some cells. -/
def lessL (cs : List Bool) (xs : List Int) : List Bool := xs.foldl (fun cs x => cs.set x.toNat false) cs
@[simp] theorem lessL_length : ∀ (xs : List Int) (cs : List Bool), (lessL cs xs).length = cs.length
  | [], cs => rfl
  | x :: xs, cs => by
    have := lessL_length xs (cs.set x.toNat false)
    unfold lessL at this ⊢
    rw [List.foldl_cons, this]; simp
theorem lessL_many : ∀ (xs : List Int) (cs : List Bool), manyOf (lessL cs xs) ≤ manyOf cs
  | [], cs => Nat.le_refl _
  | x :: xs, cs => by
    have := lessL_many xs (cs.set x.toNat false)
    have h2 := manyOf_set_le cs x.toNat
    unfold lessL at this ⊢
    rw [List.foldl_cons]; omega
theorem lessL_reg {W T : Int} {cs : List Bool} (xs : List Int) (hr : regB W T cs = true) : regB W T (lessL cs xs) = true := by
  obtain ⟨w1, w2, t1, t2, l1, m⟩ := regB_W hr
  have := lessL_many xs cs
  simp only [regB, decide_eq_true_eq]
  exact ⟨w1, w2, t1, t2, by rw [lessL_length]; exact l1, by omega⟩
theorem lessL_take {cs : List Bool} {xs : List Int} {k : Nat} (h : k < xs.length) : lessL cs (xs.take (k + 1)) = (lessL cs (xs.take k)).set (ati xs k).toNat false := by
  unfold lessL
  rw [List.take_succ_eq_append_getElem h, List.foldl_append]
  simp [ati, h]
theorem lessL_at : ∀ (xs : List Int) (cs : List Bool) (i : Nat), (∀ x ∈ xs, 0 ≤ x) → atb (lessL cs xs) i = (atb cs i && !decide ((i : Int) ∈ xs))
  | [], cs, i, _ => by simp [lessL]
  | x :: xs, cs, i, hx => by
    have ih := lessL_at xs (cs.set x.toNat false) i (fun y hy => hx y (by simp [hy]))
    have h0 := hx x (by simp)
    unfold lessL at ih ⊢
    rw [List.foldl_cons, ih]
    have e : atb (cs.set x.toNat false) i = (atb cs i && !decide ((i : Int) = x)) := by
      simp only [atb, Int.toNat_natCast, List.getD_eq_getElem?_getD, List.getElem?_set]
      by_cases h : x.toNat = i
      · have h2 : (i : Int) = x := by omega
        rw [if_pos h]
        by_cases h3 : x.toNat < cs.length
        · simp [h2, h3]
        · simp [h2, h3]
      · have h2 : ¬ (i : Int) = x := by omega
        rw [if_neg h]; simp [h2]
    rw [e]
    by_cases h1 : (i : Int) = x
    · simp [h1]
    · simp [h1]

theorem s_spec_l3Less (W T : Int) (cs : List Bool) (xs : List Int) (hb : cs.length < 2 ^ 40) (hl : xs.length < 2 ^ 40) (hx : ∀ x ∈ xs, 0 ≤ x ∧ x < cs.length) :
    SoundAt Try.prog n_spec_l3Less [.agg [.v (.int .i64 W), .v (.int .i64 T), .sl 1 1 (bools cs)], .sl 1 1 (ints xs)] (.agg [.v (.int .i64 W), .v (.int .i64 T), .os 1 (bools (lessL cs xs))]) [.bot, .bot] := by
  refine fn_okB (md := md0) (ms := [false, false]) k_spec_l3Less (by simp) ?_
  simp [c_spec_l3Less_E]
  refine frz_on rfl rfl rfl ?_
  simp
  refine ⟨by omega, ?_⟩
  simp [c_spec_l3Less_T1]
  refine loop_by (fun m E H => ∃ k : Nat, m = xs.length - k ∧ k ≤ xs.length ∧
    H = [some (.box [.v (.int .i64 0), .v (.int .i64 0), .os 1 []]), some (.box [.v (.int .i64 W), .v (.int .i64 T), .ls 1 2 0 cs.length]), some (.arr 1 (bools (lessL cs (xs.take k))))] ∧
    E = [(1, .sl 1 1 (ints xs)), (4, .lp 0 0 0 0), (5, .lp 0 1 0 0), (6, .v (.int .i64 k))]) xs.length ⟨0, by simp [lessL]⟩ ?_
  rintro J hJ m E H ⟨k, rfl, hk', rfl, rfl⟩
  by_cases hk : k < xs.length
  case neg =>
    have : k = xs.length := by omega
    subst this
    simp [c_spec_l3Less_L0]
    exact List.take_of_length_le (by simp)
  have hin : ati xs k ∈ xs := by simp [ati, hk]
  obtain ⟨h0, h1⟩ := hx _ hin
  have hstep := lessL_take (cs := cs) hk
  simp [c_spec_l3Less_L0, hk, h0, h1, bools_set]
  refine ⟨by omega, _, by omega, hJ _ _ _ ⟨k + 1, rfl, hk, by rw [hstep], by simp⟩⟩

/-- The cells with a domino. -/
def covL (ls : List Int) (n : Nat) : List Int := (List.range n).flatMap fun k : Nat => if ati ls k = 0 then [] else [(k : Int)]
theorem covL_succ (ls : List Int) (n : Nat) : covL ls (n + 1) = covL ls n ++ if ati ls n = 0 then [] else [(n : Int)] := by simp [covL, List.range_succ]
theorem covL_length (ls : List Int) : ∀ n, (covL ls n).length ≤ n
  | 0 => by simp [covL]
  | n + 1 => by have := covL_length ls n; rw [covL_succ]; split <;> simp <;> omega
theorem covL_mem {ls : List Int} {n : Nat} {x : Int} : x ∈ covL ls n ↔ ∃ k : Nat, k < n ∧ ati ls k ≠ 0 ∧ x = k := by
  simp only [covL, List.mem_flatMap, List.mem_range]
  constructor
  · rintro ⟨k, hk, hx⟩
    split at hx
    · cases hx
    · rename_i h; exact ⟨k, hk, h, by simpa using hx⟩
  · rintro ⟨k, hk, h, rfl⟩
    exact ⟨k, hk, by rw [if_neg h]; simp⟩

def cntT (W T : Int) (cs : List Bool) (ls : List Int) : Nat := cntF W T cs.length 0 (bareB cs ls)
def withI (W T : Int) (cs : List Bool) (ls : List Int) : Int := tmI W T (lessL cs (covL ls ls.length))

theorem withI_eq {W T : Int} {cs : List Bool} {ls : List Int} (hr : regB W T cs = true) (hl : ls.length = cs.length) : withI W T cs ls = ((cntT W T cs ls : Nat) : Int) := by
  rw [withI, tmI, if_pos (lessL_reg _ hr), lessL_length, cntT]
  congr 1
  apply cntF_congr
  intro i _
  have h := lessL_at (covL ls ls.length) cs i (fun x hx => by obtain ⟨k, _, _, rfl⟩ := covL_mem.1 hx; omega)
  unfold freeF
  rw [h]
  by_cases hi : i < cs.length
  · by_cases hz : ati ls i = 0
    · have : ¬ ((i : Int) ∈ covL ls ls.length) := by
        intro hm
        obtain ⟨k, _, h1, h2⟩ := covL_mem.1 hm
        have : k = i := by omega
        subst this; exact h1 hz
      simp [bareB, hz, this]
    · have : (i : Int) ∈ covL ls ls.length := covL_mem.2 ⟨i, by omega, hz, rfl⟩
      simp [bareB, hz, this]
  · have := free_out (cs := cs) i (by omega)
    unfold freeF at this
    simp [bareB, this]

theorem s_spec_l3With (W T : Int) (cs : List Bool) (ls : List Int) (hb : cs.length < 2 ^ 40) (hl : ls.length ≤ cs.length) :
    SoundAt Try.prog n_spec_l3With [.agg [.v (.int .i64 W), .v (.int .i64 T), .sl 1 1 (bools cs)], .sl 1 1 (ints ls)] (.v (.int .i64 (withI W T cs ls))) [.bot, .bot] := by
  refine fn_ok (md := md0) (ms := [false, false]) k_spec_l3With (by simp) ?_
  simp [c_spec_l3With]
  refine loop_by (fun m E H => ∃ k : Nat, m = ls.length - k ∧ k ≤ ls.length ∧
    H = [some (.box [.v (.int .i64 W), .v (.int .i64 T), .sl 1 1 (bools cs)]), some (.arr 1 (ints (covL ls k)))] ∧
    E = [(1, .sl 1 1 (ints ls)), (2, .lp 0 0 0 0), (5, .ls 1 1 0 (covL ls k).length), (6, .v (.int .i64 k))]) ls.length ⟨0, by simp [covL]⟩ ?_
  rintro J hJ m E H ⟨k, rfl, hk', rfl, rfl⟩
  have hcl := covL_length ls k
  by_cases hk : k < ls.length
  case neg =>
    have : k = ls.length := by omega
    subst this
    simp [c_spec_l3With_L0]
    refine call_on (s_spec_l3Less W T cs (covL ls ls.length) hb (by omega) ?_) ?_
    · intro x hx
      obtain ⟨j, hj, _, rfl⟩ := covL_mem.1 hx
      omega
    simp
    refine call_on (s_spec_TilingsMany W T (lessL cs (covL ls ls.length)) (by simpa using hb)) ?_
    have htk : (bools (lessL cs (covL ls ls.length))).take cs.length = bools (lessL cs (covL ls ls.length)) := List.take_of_length_le (by simp)
    simp [withI, htk]
  have hs := covL_succ ls k
  by_cases hz : ati ls k = 0
  · rw [if_pos hz, List.append_nil] at hs
    simp [c_spec_l3With_L0, hk, hz]
    exact ⟨by omega, _, by omega, hJ _ _ _ ⟨k + 1, rfl, hk, by rw [hs], by rw [hs]; simp⟩⟩
  · rw [if_neg hz] at hs
    simp [c_spec_l3With_L0, hk, hz]
    refine ⟨by omega, by omega, _, by omega, hJ _ _ _ ⟨k + 1, rfl, hk, ?_, ?_⟩⟩
    · rw [hs, ints_append]; rfl
    · rw [hs]; simp

theorem cnt_split {W T : Int} {cs : List Bool} {ls : List Int} {k : Nat} (hr : regB W T cs = true) (hy : laysB W T cs ls = true) (hb : bareI cs ls = k) :
    cntT W T cs ls = (if freeB W T cs ls k 1 = true then cntT W T cs (layI W T ls k 1) else 0) + (if freeB W T cs ls k 2 = true then cntT W T cs (layI W T ls k 2) else 0) := by
  rcases bare_cases cs ls with h | ⟨k', hk, he, hc, hz⟩
  · omega
  have : k' = k := by omega
  subst this
  have hzp := zeros_pos hk hz
  obtain ⟨m, hm⟩ : ∃ m, zeros ls = m + 1 := ⟨zeros ls - 1, by omega⟩
  unfold cntT
  rw [cnt_allT hr (m + 1) ls (by omega) hy, allT, if_neg (by omega), hb, List.length_append]
  have one : ∀ way : Int, way = 1 ∨ way = 2 → (if freeB W T cs ls k' way = true then allT W T cs m (layI W T ls k' way) else []).length = if freeB W T cs ls k' way = true then cntF W T cs.length 0 (bareB cs (layI W T ls k' way)) else 0 := by
    intro way hw
    split
    · rename_i hf
      have := lay_zeros (W := W) (T := T) (way := way) hk hz (by omega) (by omega)
      rw [cnt_allT hr m _ (by omega) (lay_ok hr hy hf)]
    · rfl
  rw [one 1 (.inl rfl), one 2 (.inr rfl)]

def listSet (n : Nat) (r : AV) (ups : List AV) : Prop := ∃ (ls : List Int) (b : Bool), ls.length ≤ n ∧ r = .tup [.os 1 (ints ls), .v (.bool b)] ∧ ups = [.bot, .bot]

theorem s_spec_TilingOf (W T : Int) (cs : List Bool) (rank : Int) (hb : cs.length < 2 ^ 40) :
    SoundSet Try.prog n_spec_TilingOf [.agg [.v (.int .i64 W), .v (.int .i64 T), .sl 1 1 (bools cs)], .v (.int .i64 rank)] (listSet cs.length) := by
  refine fn_okS (md := md0) (ms := [false, false]) k_spec_TilingOf (by simp) ?_
  simp [c_spec_TilingOf]
  refine call_on (s_spec_RegionValid W T cs hb) ?_
  cases hr : regB W T cs with
  | false => simp [FinS, listSet]
  | true =>
  have h36 := regB_len hr
  simp
  refine call_on (s_spec_TilingsMany W T cs hb) ?_
  have hcnt : tmI W T cs = ((cntT W T cs (noneL cs) : Nat) : Int) := by
    rw [tmI, if_pos hr, cntT]
    congr 1
    apply cntF_congr
    intro i _
    simp [freeF, bareB, ati_none]
  have hle : cntT W T cs (noneL cs) ≤ 2 ^ 36 := Nat.le_trans (cntF_le _ _ _) (Nat.pow_le_pow_right (by omega) h36)
  rw [hcnt]
  simp
  refine ⟨by omega, ?_⟩
  refine call_on (s_spec_l1In rank 0 (((cntT W T cs (noneL cs) : Nat) : Int) - 1)) ?_
  by_cases hx : 0 ≤ rank ∧ rank ≤ ((cntT W T cs (noneL cs) : Nat) : Int) - 1
  case neg =>
    have hx2 : (decide (0 ≤ rank) && decide (rank ≤ ((cntT W T cs (noneL cs) : Nat) : Int) - 1)) = false := by simp; omega
    simp [hx2, FinS, listSet]
  obtain ⟨rk, rfl⟩ : ∃ rk : Nat, rank = rk := ⟨rank.toNat, by omega⟩
  have hx2 : (rk : Int) ≤ ((cntT W T cs (noneL cs) : Nat) : Int) - 1 := hx.2
  simp [hx2]
  refine call_on (s_spec_LaidBare W T cs hb) ?_
  have hn : (noneL cs).length = cs.length := by simp [noneL]
  simp [hr]
  refine call_on (s_spec_l2First W T cs (noneL cs) hn hb) ?_
  simp
  refine loop_by (fun m E H => ∃ (rk : Nat) (now : List Int), m = zeros now ∧ laysB W T cs now = true ∧ rk < cntT W T cs now ∧
    H = [some (.box [.v (.int .i64 W), .v (.int .i64 T), .sl 1 1 (bools cs)]), some (.arr 1 (ints now))] ∧
    E = [(1, .v (.int .i64 rk)), (2, .lp 0 0 0 0), (6, .ls 1 1 0 now.length), (7, .v (.int .i64 (bareI cs now)))]) (zeros (noneL cs)) ⟨rk, noneL cs, rfl, lays_none W T cs, by omega, rfl, by simp⟩ ?_
  rintro J hJ m E H ⟨rk, now, rfl, hy, hlt, rfl, rfl⟩
  have hnl := lays_len hy
  rcases bare_cases cs now with hneg | ⟨k, hk, he, hc, hz⟩
  · simp [c_spec_TilingOf_L0, hneg, FinS, listSet]
    exact ⟨now, by omega, rfl⟩
  have hsplit := cnt_split hr hy he
  have hle2 : cntT W T cs now ≤ 2 ^ 36 := Nat.le_trans (cntF_le _ _ _) (Nat.pow_le_pow_right (by omega) h36)
  have goon : ∀ (way : Int) (rk2 : Nat), way = 1 ∨ way = 2 → freeB W T cs now k way = true → rk2 < cntT W T cs (layI W T now k way) →
      again J (zeros now) [(1, .v (.int .i64 rk2)), (2, .lp 0 0 0 0), (6, .ls 1 1 0 now.length), (7, .v (.int .i64 (bareI cs (layI W T now k way))))]
        [some (.box [.v (.int .i64 W), .v (.int .i64 T), .sl 1 1 (bools cs)]), some (.arr 1 (ints (layI W T now k way)))] := by
    intro way rk2 hw hf hlt2
    exact ⟨_, lay_zeros hk hz (by omega) (by omega), hJ _ _ _ ⟨rk2, _, rfl, lay_ok hr hy hf, hlt2, rfl, by simp [layI_length]⟩⟩
  have first2 := s_spec_l2First W T cs (layI W T now k 2) (by rw [layI_length]; exact hnl) hb
  have two (hf2 : freeB W T cs now k 2 = true) := s_spec_LayOne W T cs now k 2 hr hy
  have l2 (hf2 : freeB W T cs now k 2 = true) : layOneL W T cs now k 2 = layI W T now k 2 := by simp [layOneL, hf2]
  have ll : ∀ way : Int, (layI W T now k way).length = now.length := fun way => layI_length ..
  have tk : ∀ way : Int, (ints (layI W T now k way)).take now.length = ints (layI W T now k way) := fun way => List.take_of_length_le (by simp [ll])
  simp [c_spec_TilingOf_L0, he]
  refine call_on (s_spec_LayOne W T cs now k 1 hr hy) ?_
  simp
  cases hf1 : freeB W T cs now k 1 with
  | false =>
    have hf2 : freeB W T cs now k 2 = true := by
      cases h : freeB W T cs now k 2 with
      | true => rfl
      | false => simp [hf1, h] at hsplit; omega
    simp [hf1, hf2] at hsplit
    simp
    refine ⟨by omega, ?_⟩
    refine call_on (two hf2) ?_
    rw [l2 hf2, hf2]
    simp
    refine call_on first2 ?_
    simp [ll, tk]
    exact goon 2 rk (.inr rfl) hf2 (by omega)
  | true =>
    have l1' : layOneL W T cs now k 1 = layI W T now k 1 := by simp [layOneL, hf1]
    have first1 := s_spec_l2First W T cs (layI W T now k 1) (by rw [layI_length]; exact hnl) hb
    rw [l1']
    simp
    refine call_on (s_spec_l3With W T cs (layI W T now k 1) hb (by rw [layI_length]; omega)) ?_
    rw [withI_eq hr (by rw [layI_length]; exact hnl)]
    by_cases hm : rk < cntT W T cs (layI W T now k 1)
    · have hm' : ¬ cntT W T cs (layI W T now k 1) ≤ rk := by omega
      simp [hm']
      refine call_on first1 ?_
      simp [ll, tk]
      exact goon 1 rk (.inl rfl) hf1 hm
    · have hm' : cntT W T cs (layI W T now k 1) ≤ rk := by omega
      have hf2 : freeB W T cs now k 2 = true := by
        cases h : freeB W T cs now k 2 with
        | true => rfl
        | false => simp [hf1, h] at hsplit; omega
      simp [hf1, hf2] at hsplit
      simp [hm']
      refine ⟨by omega, ?_⟩
      refine call_on (two hf2) ?_
      rw [l2 hf2, hf2]
      simp
      refine call_on first2 ?_
      simp [ll, tk]
      have e : (rk : Int) - (cntT W T cs (layI W T now k 1) : Nat) = ((rk - cntT W T cs (layI W T now k 1) : Nat) : Int) := by omega
      rw [e]
      exact goon 2 (rk - cntT W T cs (layI W T now k 1)) (.inr rfl) hf2 (by omega)

end Go.Proofs.Dev
