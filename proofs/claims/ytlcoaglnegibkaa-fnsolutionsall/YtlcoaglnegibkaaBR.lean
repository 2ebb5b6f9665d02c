/- Contracts of the functions of the program over slots and rows, each proved against the program itself; no condition beyond those that each theorem names. -/
import Derived.Test.YtlcoaglnegibkaaBC
import Derived.Test.YtlcoaglnegibkaaBN

set_option linter.unusedSimpArgs false
set_option linter.unusedVariables false

namespace Go.Proofs.Dev
set_option linter.unusedSimpArgs false
set_option maxRecDepth 100000

/-- Who takes ownership: each of the list and of the closure, the closure of all. -/
@[simp] def md7 (f : Nat) : List Bool := if f = 120 then [false, true, true] else if f = 124 then [true, true] else md0 f

def keepA (ps : List (List Int)) : List (List Int) := ps
theorem keepA_one (t : List Int) : keepA [t] = [t] := rfl
theorem keepA_append (a b : List (List Int)) : keepA (a ++ b) = keepA a ++ keepA b := rfl
theorem keepA_length (a : List (List Int)) : (keepA a).length ≤ a.length := Nat.le_refl _

theorem s_impl_tilings_1F (t : List Int) (acc : List (List Int)) (ha : acc.length < 2 ^ 38) :
    SoundAt Try.prog n_impl_Region_tilings_1 [.os 1 (ints t), .op [.os 1 (oss acc)]] (.v (.bool true)) [.bot, .op [.os 1 (oss (acc ++ [t]))]] := by
  refine fn_ok (md := md0) (ms := [false, true]) k_impl_Region_tilings_1 (by simp) ?_
  simp [c_impl_Region_tilings_1]
  refine ⟨by omega, ?_⟩
  rw [oss_append, oss_one]
  exact List.take_of_length_le (by simp)

theorem ok124 : okFn Try.prog 124 = true := by kernel_rfl

def tilH (W T : Int) (cs : List Bool) (ls : List Int) (acc : List (List Int)) : Heap :=
  [some (.arr 1 (ints ls)), some (.box [.ls 1 3 0 acc.length]), some (.box [.v (.int .i64 W), .v (.int .i64 T), .sl 1 1 (bools cs)]), some (.arr 1 (oss acc))]
def tilH2 (W T : Int) (cs : List Bool) (ls : List Int) (acc : List (List Int)) : Heap :=
  [some (.arr 1 (ints ls)), some (.box [.ls 1 4 0 acc.length]), some (.box [.v (.int .i64 W), .v (.int .i64 T), .sl 1 1 (bools cs)]), some (.arr 1 [.v (.int .i64 1), .v (.int .i64 2)]), some (.arr 1 (oss acc))]

theorem til_of (W T : Int) (cs : List Bool) (hr : regB W T cs = true) (n : Nat)
    (ih : ∀ m, n = m + 1 → ∀ (ls : List Int) (acc : List (List Int)), zeros ls ≤ m → laysB W T cs ls = true → acc.length + 2 ^ m ≤ 2 ^ 37 →
      SoundAt Try.prog n_impl_Region_each [.agg [.v (.int .i64 W), .v (.int .i64 T), .sl 1 1 (bools cs)], .os 1 (ints ls), .fn 124 [.op [.os 1 (oss acc)]]]
        (.v (.bool true)) [.bot, .bot, .fn 124 [.op [.os 1 (oss (acc ++ keepA (allT W T cs m ls)))]]])
    (ls : List Int) (acc : List (List Int)) (hz : zeros ls ≤ n) (hy : laysB W T cs ls = true) (ha : acc.length + 2 ^ n ≤ 2 ^ 37) :
    SoundAt Try.prog n_impl_Region_each [.agg [.v (.int .i64 W), .v (.int .i64 T), .sl 1 1 (bools cs)], .os 1 (ints ls), .fn 124 [.op [.os 1 (oss acc)]]]
      (.v (.bool true)) [.bot, .bot, .fn 124 [.op [.os 1 (oss (acc ++ keepA (allT W T cs n ls)))]]] := by
  have h36 := regB_len hr
  have hl : ls.length = cs.length := by simp only [laysB, Bool.and_eq_true, decide_eq_true_eq] at hy; exact hy.1
  have hp : 0 < 2 ^ n := Nat.pow_pos (by omega)
  have hac : acc.length < 2 ^ 38 := Nat.lt_of_le_of_lt (Nat.le_trans (Nat.le_add_right _ _) ha) (by decide)
  refine fn_ok (md := md7) (ms := [false, false, true]) k_impl_Region_each (by simp) ?_
  simp [c_impl_Region_each]
  refine loop_by (fun m E H => ∃ i : Nat, m = ls.length - i ∧ i ≤ ls.length ∧ (∀ j : Nat, j < i → bareB cs ls j = false) ∧ H = tilH W T cs ls acc ∧
    E = [(1, .ls 1 0 0 ls.length), (2, .fn 124 [.lp 0 1 0 0]), (3, .lp 0 2 0 0), (7, .v (.int .i64 i)), (63, .fn 124 [.lp 0 1 0 0])]) ls.length ⟨0, by simp [tilH]⟩ ?_
  rintro J hJ m E H ⟨i, rfl, hi, hb, rfl, rfl⟩
  by_cases h : i < ls.length
  case neg =>
    have hi' : i = ls.length := by omega
    subst hi'
    have he : bareI cs ls = -1 := firstI_none hb
    simp [c_impl_Region_each_L0, tilH]
    refine ⟨ok124, call_on (s_impl_tilings_1F ls acc hac) ?_⟩
    simp [allT_leaf n (show bareI cs ls < 0 by omega), keepA_one]
    exact List.take_of_length_le (by simp)
  have next : bareB cs ls i = false → again J (ls.length - i) [(1, .ls 1 0 0 ls.length), (2, .fn 124 [.lp 0 1 0 0]), (3, .lp 0 2 0 0), (7, .v (.int .i64 (i + 1))), (63, .fn 124 [.lp 0 1 0 0])]
      (tilH W T cs ls acc) := by
    intro hx
    refine ⟨_, by omega, hJ _ _ _ ⟨i + 1, rfl, h, ?_, rfl, rfl⟩⟩
    intro j hj
    rcases Nat.lt_or_ge j i with h1 | h1
    · exact hb j h1
    · have : j = i := by omega
      subst this; exact hx
  have h2 : i < cs.length := by omega
  cases hc : atb cs i with
  | false =>
    have nx := next (by simp [bareB, hc])
    simp [tilH] at nx
    simp [c_impl_Region_each_L0, tilH, h, h2, hc]
    exact ⟨by omega, nx⟩
  | true =>
  by_cases z : ati ls i = 0
  case neg =>
    have nx := next (by simp [bareB, z])
    simp [tilH] at nx
    simp [c_impl_Region_each_L0, tilH, h, h2, hc, z]
    exact ⟨by omega, nx⟩
  have he : bareI cs ls = i := firstI_hit h (by simp [bareB, hc, z]) hb
  have hzp := zeros_pos h z
  obtain ⟨n', rfl⟩ : ∃ n', n = n' + 1 := ⟨n - 1, by omega⟩
  have hk0 : ¬ (i : Int) < 0 := by omega
  have hall : allT W T cs (n' + 1) ls = accT W T cs n' ls i 2 := by
    rw [allT, he, if_neg hk0]
    simp [accT, partT, List.range_succ]
  rw [hall]
  have hne : ¬ ((i : Int) = ls.length) := by omega
  simp [c_impl_Region_each_L0, tilH, h, h2, hc, z, hne]
  have b1 := accT_length W T cs n' ls i
  have hpow : 2 ^ (n' + 1) = 2 * 2 ^ n' := by rw [Nat.pow_succ]; omega
  refine loop_by (fun m E H => ∃ j : Nat, m = 2 - j ∧ j ≤ 2 ∧ H = tilH2 W T cs ls (acc ++ keepA (accT W T cs n' ls i j)) ∧
    E = [(1, .ls 1 0 0 ls.length), (2, .fn 124 [.lp 0 1 0 0]), (3, .lp 0 2 0 0), (7, .v (.int .i64 i)), (38, .ls 1 3 0 2), (39, .v (.int .i64 2)), (40, .v (.int .i64 j)), (63, .fn 124 [.lp 0 1 0 0])]) 2 ⟨0, by simp [tilH2, accT, keepA]⟩ ?_
  rintro J2 hJ2 m2 E2 H2 ⟨j, rfl, hj, rfl, rfl⟩
  by_cases h3 : j < 2
  case neg =>
    have : j = 2 := by omega
    subst this
    simp [c_impl_Region_each_L1, tilH2]
    exact List.take_of_length_le (by simp)
  have h01 : j = 0 ∨ j = 1 := by omega
  rcases h01 with rfl | rfl
  · have hsuc : accT W T cs n' ls i (0 + 1) = accT W T cs n' ls i 0 ++ partT W T cs n' ls i 1 := by simpa using accT_succ W T cs n' ls i 0
    have bl := b1 0
    have kl := keepA_length (accT W T cs n' ls i 0)
    have hlen : (acc ++ keepA (accT W T cs n' ls i 0)).length + 2 ^ n' ≤ 2 ^ 37 := by rw [List.length_append]; omega
    have next2 : ∀ x, partT W T cs n' ls i 1 = x → again J2 (2 - 0) [(1, .ls 1 0 0 ls.length), (2, .fn 124 [.lp 0 1 0 0]), (3, .lp 0 2 0 0), (7, .v (.int .i64 i)), (38, .ls 1 3 0 2), (39, .v (.int .i64 2)), (40, .v (.int .i64 1)), (63, .fn 124 [.lp 0 1 0 0])]
        (tilH2 W T cs ls ((acc ++ keepA (accT W T cs n' ls i 0)) ++ keepA x)) := by
      rintro x rfl
      refine ⟨_, by omega, hJ2 _ _ _ ⟨0 + 1, rfl, by omega, ?_, rfl⟩⟩
      rw [hsuc, keepA_append, List.append_assoc]
    generalize hA : acc ++ keepA (accT W T cs n' ls i 0) = A at *
    simp [c_impl_Region_each_L1, tilH2]
    refine call_on (s_impl_Region_free W T cs ls i 1 hr hl) ?_
    cases hf : freeB W T cs ls i 1 with
    | false =>
      have nx := next2 [] (by simp [partT, hf])
      simp [tilH2, keepA] at nx
      simp
      exact nx
    | true =>
      have nx := next2 (allT W T cs n' (layI W T ls i 1)) (by simp [partT, hf])
      have hzl : zeros (layI W T ls i 1) < zeros ls := lay_zeros h z (by omega) (by omega)
      have rcr := ih n' rfl (layI W T ls i 1) A (by omega) (lay_ok hr hy hf) hlen
      have hll := layI_length W T ls i 1
      simp [tilH2] at nx
      simp
      (repeat' first | assumption | omega | apply And.intro) <;>
      · refine call_on (s_impl_Region_lay W T cs ls i 1 hr hl hf) ?_
        simp [hll]
        (repeat' first | assumption | omega | apply And.intro) <;>
        · refine call_on rcr ?_
          simp [hll]
          exact nx
  · have hsuc : accT W T cs n' ls i (1 + 1) = accT W T cs n' ls i 1 ++ partT W T cs n' ls i 2 := by simpa using accT_succ W T cs n' ls i 1
    have bl := b1 1
    have kl := keepA_length (accT W T cs n' ls i 1)
    have hlen : (acc ++ keepA (accT W T cs n' ls i 1)).length + 2 ^ n' ≤ 2 ^ 37 := by rw [List.length_append]; omega
    have next2 : ∀ x, partT W T cs n' ls i 2 = x → again J2 (2 - 1) [(1, .ls 1 0 0 ls.length), (2, .fn 124 [.lp 0 1 0 0]), (3, .lp 0 2 0 0), (7, .v (.int .i64 i)), (38, .ls 1 3 0 2), (39, .v (.int .i64 2)), (40, .v (.int .i64 2)), (63, .fn 124 [.lp 0 1 0 0])]
        (tilH2 W T cs ls ((acc ++ keepA (accT W T cs n' ls i 1)) ++ keepA x)) := by
      rintro x rfl
      refine ⟨_, by omega, hJ2 _ _ _ ⟨1 + 1, rfl, by omega, ?_, rfl⟩⟩
      rw [hsuc, keepA_append, List.append_assoc]
    generalize hA : acc ++ keepA (accT W T cs n' ls i 1) = A at *
    simp [c_impl_Region_each_L1, tilH2]
    refine call_on (s_impl_Region_free W T cs ls i 2 hr hl) ?_
    cases hf : freeB W T cs ls i 2 with
    | false =>
      have nx := next2 [] (by simp [partT, hf])
      simp [tilH2, keepA] at nx
      simp
      exact nx
    | true =>
      have nx := next2 (allT W T cs n' (layI W T ls i 2)) (by simp [partT, hf])
      have hzl : zeros (layI W T ls i 2) < zeros ls := lay_zeros h z (by omega) (by omega)
      have rcr := ih n' rfl (layI W T ls i 2) A (by omega) (lay_ok hr hy hf) hlen
      have hll := layI_length W T ls i 2
      simp [tilH2] at nx
      simp
      (repeat' first | assumption | omega | apply And.intro) <;>
      · refine call_on (s_impl_Region_lay W T cs ls i 2 hr hl hf) ?_
        simp [hll]
        (repeat' first | assumption | omega | apply And.intro) <;>
        · refine call_on rcr ?_
          simp [hll]
          exact nx

theorem s_impl_eachT (W T : Int) (cs : List Bool) (hr : regB W T cs = true) : ∀ (n : Nat) (ls : List Int) (acc : List (List Int)), zeros ls ≤ n → laysB W T cs ls = true → acc.length + 2 ^ n ≤ 2 ^ 37 →
    SoundAt Try.prog n_impl_Region_each [.agg [.v (.int .i64 W), .v (.int .i64 T), .sl 1 1 (bools cs)], .os 1 (ints ls), .fn 124 [.op [.os 1 (oss acc)]]]
      (.v (.bool true)) [.bot, .bot, .fn 124 [.op [.os 1 (oss (acc ++ keepA (allT W T cs n ls)))]]] := by
  intro n
  induction n with
  | zero => intro ls acc h1 h2 h3; exact til_of W T cs hr 0 (fun m h => by omega) ls acc h1 h2 h3
  | succ n ih =>
    intro ls acc h1 h2 h3
    refine til_of W T cs hr (n + 1) (fun m h => ?_) ls acc h1 h2 h3
    have : m = n := by omega
    subst this
    exact ih


theorem s_impl_Region_tilings (W T : Int) (cs : List Bool) (hr : regB W T cs = true) :
    SoundAt Try.prog n_impl_Region_tilings [.agg [.v (.int .i64 W), .v (.int .i64 T), .sl 1 1 (bools cs)]] (.os 1 (oss (tilesI W T cs))) [.bot] := by
  refine fn_ok (md := md7) (ms := [false]) k_impl_Region_tilings (by simp) ?_
  have h36 := regB_len hr
  have hz : zeros (noneL cs) ≤ cs.length := by have := zeros_le (noneL cs); simp [noneL] at this ⊢; omega
  have hpow : 2 ^ cs.length ≤ 2 ^ 36 := Nat.pow_le_pow_right (by omega) h36
  have each := s_impl_eachT W T cs hr cs.length (noneL cs) [] hz (lays_none W T cs) (by simp only [List.length_nil, Nat.zero_add]; exact Nat.le_trans hpow (by decide))
  rw [oss_nil, List.nil_append] at each
  have e : keepA (allT W T cs cs.length (noneL cs)) = tilesI W T cs := by simp only [keepA, tilesI, hr, if_true]
  rw [e] at each
  have en : ints (List.replicate cs.length 0) = ints (noneL cs) := rfl
  have hnl : (noneL cs).length = cs.length := by simp [noneL]
  have htk : (ints (noneL cs)).take cs.length = ints (noneL cs) := List.take_of_length_le (by simp [noneL])
  simp [c_impl_Region_tilings, ints_rep]
  (repeat' first | assumption | omega | apply And.intro) <;>
  · rw [en]
    refine call_on each ?_
    simp [c_impl_Region_tilings_T0, hnl, htk]
    refine call_on (s_slices_Clip_ints (tilesI W T cs)) ?_
    simp

theorem s_impl_TilingsAll (W T : Int) (cs : List Bool) (hb : cs.length < 2 ^ 40) :
    SoundAt Try.prog n_impl_TilingsAll [.agg [.v (.int .i64 W), .v (.int .i64 T), .sl 1 1 (bools cs)]] (.os 1 (oss (tilesI W T cs))) [.bot] := by
  refine fn_ok (md := md7) (ms := [false]) k_impl_TilingsAll (by simp) ?_
  simp [c_impl_TilingsAll]
  refine call_on (s_impl_RegionValid W T cs hb) ?_
  cases hr : regB W T cs with
  | false =>
    have e : tilesI W T cs = [] := by simp [tilesI, hr]
    simp [e]
  | true =>
    simp
    refine call_on (s_impl_Region_tilings W T cs hr) ?_
    simp

theorem s_impl_TilingsAllF (W T : Int) (cs : List Bool) (hb : cs.length < 2 ^ 40) :
    SoundAt Try.prog n_impl_TilingsAll [.agg [.v (.int .i64 W), .v (.int .i64 T), .sl 1 1 (bools cs)]] (.sl 0 1 (sls 0 (tilesI W T cs))) [.bot] := by
  have h := SoundAt.frozen (n := 1) RL_reg (s_impl_TilingsAll W T cs hb)
  simpa [vw] using h
end Go.Proofs.Dev

namespace Go.Proofs.Dev
set_option linter.unusedSimpArgs false
set_option maxRecDepth 100000

theorem sols_filter (W T : Int) (cs : List Bool) (ds : List Int) : solsI W T cs ds = (tilesI W T cs).filter (solvedB W T cs ds) := by
  cases hv : (regB W T cs && digsB cs ds) with
  | false =>
    have e1 : solsI W T cs ds = [] := by rw [solsI, if_neg (by simp [hv])]
    rw [e1, eq_comm, List.filter_eq_nil_iff]
    intro t ht hs
    obtain ⟨hr, hd, _, _⟩ := fair_parts (solved_parts hs).1
    rw [hr, hd] at hv; cases hv
  | true =>
    rw [sols_fair hv]
    simp only [Bool.and_eq_true] at hv
    obtain ⟨hr, hd⟩ := hv
    refine List.filter_congr fun t ht => ?_
    have hm : t ∈ allT W T cs cs.length (noneL cs) := by
      unfold tilesI at ht
      rwa [if_pos hr] at ht
    have hz : zeros (noneL cs) ≤ cs.length := by have := zeros_le (noneL cs); simp [noneL] at this ⊢; omega
    obtain ⟨hy, hf⟩ := allT_full hr cs.length (noneL cs) hz (lays_none W T cs) t hm
    have e : fairB W T cs ds t = onceB (pairsI W T ds t) := by simp [fairB, okB, hr, hd, hy]
    cases ho : onceB (pairsI W T ds t) with
    | true =>
      rw [eq_comm]
      refine (mem_sols.1 ?_)
      rw [sols_fair (by rw [hr, hd]; rfl)]
      exact List.mem_filter.2 ⟨ht, ho⟩
    | false =>
      cases hs : solvedB W T cs ds t with
      | false => rfl
      | true =>
        have := (solved_parts hs).1
        rw [e, ho] at this; cases this

theorem filter_at {α : Type} (P : α → Bool) (l : List α) (k : Nat) (hk : k < l.length) (hp : P l[k] = true) :
    ∃ h : ((l.take k).filter P).length < (l.filter P).length, (l.filter P)[((l.take k).filter P).length] = l[k] := by
  have e : l.filter P = (l.take k).filter P ++ l[k] :: (l.drop (k + 1)).filter P := by
    conv => lhs; rw [← List.take_append_drop k l, List.drop_eq_getElem_cons hk]
    rw [List.filter_append, List.filter_cons, if_pos hp]
  refine ⟨by rw [e]; simp, ?_⟩
  simp only [e]
  simp

theorem l_FnSolutionsAll (bs : List Int) (hB : Byt bs) : SoundAt Try.prog n_laws_FnSolutionsAll [.sl 0 1 (u8s bs)] (.v (.bool true)) [.bot] := by
  refine fn_ok (md := md5) (ms := [false]) k_laws_FnSolutionsAll (by simp) ?_
  simp [c_laws_FnSolutionsAll]
  refine fun hsz => ?_
  have hb : bs.length ≤ 2 ^ 60 := by omega
  refine call_onK (s_spec_DrawSolutionsAll bs hb hB) [] (by simp) (by simp) (by simp) ?_
  rintro _ _ ⟨W, T, cs, ds, rfl, hcs, hds, rfl⟩
  have one := s_impl_SolutionsAllF W T cs ds (by omega) (by omega)
  have two := s_spec_SolutionsAllF W T cs ds (by omega) (by omega)
  have three := s_impl_TilingsAllF W T cs (by omega)
  have hsl := sols_length (W := W) (T := T) (cs := cs) (ds := ds)
  have htl := tiles_length (W := W) (T := T) (cs := cs)
  have hlen : ∀ p ∈ solsI W T cs ds, p.length < 2 ^ 40 := fun p hp => by rw [sols_len hp]; omega
  have htn : ∀ p ∈ tilesI W T cs, p.length < 2 ^ 40 := fun p hp => by rw [tiles_mem hp]; omega
  have hfil := sols_filter W T cs ds
  have same := s_laws_sameLists (solsI W T cs ds) (solsI W T cs ds) (by omega) hlen
  simp only [decide_true] at same
  generalize solsI W T cs ds = ss at *
  generalize tilesI W T cs = ts at *
  simp [regA]
  refine call_on one ?_
  simp
  refine call_on two ?_
  simp
  refine call_on same ?_
  simp
  refine call_on three ?_
  simp
  refine loop_by (fun m E H => ∃ i : Nat, m = ts.length - i ∧ i ≤ ts.length ∧ E = [(3, .lp 0 0 0 0), (4, .ls 1 1 0 ds.length), (5, .sl 0 1 (sls 0 ss)), (6, .sl 0 1 (sls 0 ts)), (7, .v (.int .i64 ((ts.take i).filter (solvedB W T cs ds)).length)), (8, .v (.int .i64 i))] ∧ H = [some (.box [.v (.int .i64 W), .v (.int .i64 T), .ls 1 2 0 cs.length]), some (.arr 1 (ints ds)), some (.arr 1 (bools cs))]) ts.length ⟨0, by simp⟩ ?_
  rintro J hJ m E H ⟨i, rfl, hi, rfl, rfl⟩
  by_cases h : i < ts.length
  · have et : pti ts i = ts[i] := pti_get h
    have htl2 : (pti ts i).length < 2 ^ 40 := by rw [et]; exact htn _ (List.getElem_mem h)
    have four := s_impl_SolvedOk W T cs ds (pti ts i) (by omega) (by omega) (by omega)
    have hstep : ((ts.take (i + 1)).filter (solvedB W T cs ds)).length = ((ts.take i).filter (solvedB W T cs ds)).length + if solvedB W T cs ds (pti ts i) = true then 1 else 0 := by
      rw [List.take_succ_eq_append_getElem h, List.filter_append, List.length_append, et]
      congr 1
      by_cases hq : solvedB W T cs ds ts[i] = true <;> simp [hq]
    cases hs : solvedB W T cs ds (pti ts i) with
    | false =>
      rw [hs] at four
      rw [hs] at hstep
      simp at hstep
      simp [c_laws_FnSolutionsAll_L0, h]
      (repeat' first | omega | apply And.intro) <;>
      · refine call_on four ?_
        simp
        exact ⟨by omega, _, by omega, hJ _ _ _ ⟨i + 1, rfl, h, by simp [hstep], rfl⟩⟩
    | true =>
      rw [hs] at four
      rw [hs] at hstep
      simp only [if_true] at hstep
      obtain ⟨h1, h2⟩ := filter_at (solvedB W T cs ds) ts i h (by rw [← et]; exact hs)
      rw [← et] at h2
      have h3 : ((ts.take i).filter (solvedB W T cs ds)).length < ss.length := by rw [hfil]; exact h1
      have h4 : pti ss ((ts.take i).filter (solvedB W T cs ds)).length = pti ts i := by
        rw [pti_get h3, ← h2]
        simp only [hfil]
      generalize ((ts.take i).filter (solvedB W T cs ds)).length = n at *
      have h5 : ¬ (ss.length : Int) ≤ n := by omega
      have five := s_laws_sameInts (pti ts i) (pti ts i) (by omega)
      simp only [decide_true] at five
      simp [c_laws_FnSolutionsAll_L0, h]
      (repeat' first | omega | apply And.intro) <;>
      · refine call_on four ?_
        simp [h3, h5, h4]
        (repeat' first | omega | apply And.intro) <;>
        · refine call_on five ?_
          simp
          exact ⟨by omega, by omega, _, by omega, hJ _ _ _ ⟨i + 1, rfl, h, by simp [hstep], rfl⟩⟩
  · have : i = ts.length := by omega
    subst this
    have e : ((ts.take ts.length).filter (solvedB W T cs ds)).length = ss.length := by rw [List.take_length, hfil]
    have e2 : ((ts.filter (solvedB W T cs ds)).length : Int) = ss.length := by rw [hfil]
    simp [c_laws_FnSolutionsAll_L0]
    refine ⟨fun _ => ?_, e2⟩
    refine call_on s_laws_alive ?_
    simp
end Go.Proofs.Dev
