/- Contracts of the functions of the program over slots and rows, each proved against the program itself; no condition beyond those that each theorem names. -/
import Derived.Test.YtlcoaglnegibkaaGreatI
import Derived.Test.YtlcoaglnegibkaaGreatL
import Derived.Test.YtlcoaglnegibkaaGreatK

set_option linter.unusedSimpArgs false
set_option linter.unusedVariables false

namespace Go.Proofs.Dev
set_option linter.unusedSimpArgs false
set_option maxRecDepth 100000

theorem s_slices_Clone_int (xs : List Int) (hx : xs.length < 2 ^ 40) : SoundAt Tryz.prog n_slices_Clone_int_int [.sl 1 1 (ints xs)] (.os 1 (ints xs)) [.bot] := by
  refine fn_ok (md := md0) (ms := [false]) k_slices_Clone_int_int (by simp) ?_
  simp [c_slices_Clone_int_int]
  refine ⟨fun h => by omega, fun h => ?_⟩
  subst h
  simp

theorem s_impl_clone_int (xs : List Int) (hx : xs.length < 2 ^ 40) : SoundAt Tryz.prog n_impl_clone_int [.sl 1 1 (ints xs)] (.os 1 (ints xs)) [.bot] := by
  refine fn_ok (md := md0) (ms := [false]) k_impl_clone_int (by simp) ?_
  simp [c_impl_clone_int]
  refine call_on (s_slices_Clone_int xs hx) ?_
  simp
  refine call_on (s_slices_Clip_int_int xs) ?_
  simp

theorem s_spec_l1Has (xs : List Int) (n : Int) (hx : xs.length < 2 ^ 40) : SoundAt Tryz.prog n_spec_l1Has [.sl 1 1 (ints xs), .v (.int .i64 n)] (.v (.bool (decide (n ∈ xs)))) [.bot, .bot] := by
  refine fn_ok (md := md0) (ms := [false, false]) k_spec_l1Has (by simp) ?_
  simp [c_spec_l1Has]
  refine loop_by (fun m E H => ∃ i : Nat, m = xs.length - i ∧ i ≤ xs.length ∧ ¬ n ∈ xs.take i ∧ H = [] ∧ E = [(0, .sl 1 1 (ints xs)), (1, .v (.int .i64 n)), (5, .v (.int .i64 i))]) xs.length ⟨0, by simp⟩ ?_
  rintro J hJ m E H ⟨i, rfl, hi, hn, rfl, rfl⟩
  by_cases h : i < xs.length
  · have e : ati xs i = xs[i] := by simp [ati, h]
    simp [c_spec_l1Has_L0, h]
    refine ⟨fun he => ?_, fun he => ⟨by omega, _, by omega, hJ _ _ _ ⟨i + 1, rfl, h, ?_, rfl, rfl⟩⟩⟩
    · rw [← he, e]; exact List.getElem_mem h
    · rw [List.take_succ_eq_append_getElem h, ← e]
      simp [hn, Ne.symm he]
  · have : i = xs.length := by omega
    subst this
    rw [List.take_length] at hn
    simp [c_spec_l1Has_L0, hn]

theorem s_spec_l9Once (xs : List Int) (hx : xs.length < 2 ^ 40) : SoundAt Tryz.prog n_spec_l9Once [.sl 1 1 (ints xs)] (.v (.bool (onceB xs))) [.bot] := by
  refine fn_ok (md := md0) (ms := [false]) k_spec_l9Once (by simp) ?_
  simp [c_spec_l9Once]
  refine loop_by (fun m E H => ∃ i : Nat, m = xs.length - i ∧ i ≤ xs.length ∧ (xs.take i).Nodup ∧ H = [] ∧ E = [(0, .sl 1 1 (ints xs)), (3, .v (.int .i64 i))]) xs.length ⟨0, by simp⟩ ?_
  rintro J hJ m E H ⟨i, rfl, hi, hn, rfl, rfl⟩
  by_cases h : i < xs.length
  · have e := once_take_succ xs i h
    have hle : i ≤ xs.length := hi
    simp [c_spec_l9Once_L0, h, hle, take_ints]
    refine call_on (s_spec_l1Has (xs.take i) (ati xs i) (by simp; omega)) ?_
    simp [take_ints]
    refine ⟨fun he => ?_, fun he => ⟨by omega, _, by omega, hJ _ _ _ ⟨i + 1, rfl, h, e.2 ⟨hn, he⟩, rfl, rfl⟩⟩⟩
    simp only [onceB, decide_eq_false_iff_not]
    intro hnd
    exact (e.1 ((List.take_sublist (i + 1) xs).nodup hnd)).2 he
  · have : i = xs.length := by omega
    subst this
    rw [List.take_length] at hn
    simp [c_spec_l9Once_L0, onceB, hn]

end Go.Proofs.Dev

namespace Go.Proofs.Dev
set_option linter.unusedSimpArgs false
set_option maxRecDepth 100000

theorem s_bits_Len64_zero : SoundAt Tryz.prog n_mathbits_Len64 [.v (.int .u64 0)] (.v (.int .i64 0)) [.bot] := by
  refine fn_ok (md := md0) (ms := [false]) k_mathbits_Len64 (by simp) ?_
  simp [c_mathbits_Len64]
  show stepK _ _ _ (some (AV.v (.int .u8 0), []))
  simp

theorem s_bits_Len_zero : SoundAt Tryz.prog n_mathbits_Len [.v (.int .u64 0)] (.v (.int .i64 0)) [.bot] := by
  refine fn_ok (md := md0) (ms := [false]) k_mathbits_Len (by simp) ?_
  simp [c_mathbits_Len]
  refine call_on s_bits_Len64_zero ?_
  simp

theorem s_insertion_nil : SoundAt Tryz.prog n_slices_insertionSortOrdered_int [.sl 1 1 [], .v (.int .i64 0), .v (.int .i64 0)] (.tup []) [.bot, .bot, .bot] := by
  refine fn_ok (md := md0) (ms := [false, false, false]) k_slices_insertionSortOrdered_int (by simp) ?_
  simp [c_slices_insertionSortOrdered_int]
  refine loop_by (fun m E H => m = 0 ∧ H = [] ∧ E = [(0, .sl 1 1 []), (1, .v (.int .i64 0)), (2, .v (.int .i64 0)), (6, .v (.int .i64 1))]) 0 ⟨rfl, rfl, rfl⟩ ?_
  rintro J hJ m E H ⟨rfl, rfl, rfl⟩
  simp [c_slices_insertionSortOrdered_int_L1]

theorem s_pdqsort_nil : SoundAt Tryz.prog n_slices_pdqsortOrdered_int [.sl 1 1 [], .v (.int .i64 0), .v (.int .i64 0), .v (.int .i64 0)] (.tup []) [.bot, .bot, .bot, .bot] := by
  refine fn_ok (md := md0) (ms := [false, false, false, false]) k_slices_pdqsortOrdered_int (by simp) ?_
  simp [c_slices_pdqsortOrdered_int]
  refine loop_by (fun m E H => m = 0 ∧ H = [] ∧ E = [(0, .sl 1 1 []), (1, .v (.int .i64 0)), (2, .v (.int .i64 0)), (3, .v (.int .i64 0)), (8, .v (.bool true)), (9, .v (.bool true))]) 0 ⟨rfl, rfl, rfl⟩ ?_
  rintro J hJ m E H ⟨rfl, rfl, rfl⟩
  simp [c_slices_pdqsortOrdered_int_L0]
  refine call_on s_insertion_nil ?_
  simp

theorem s_slices_Sort_nil : SoundAt Tryz.prog n_slices_Sort_int_int [.os 1 []] (.tup []) [.os 1 []] := by
  refine fn_ok (md := md0) (ms := [true]) k_slices_Sort_int_int (by simp) ?_
  simp [c_slices_Sort_int_int]
  refine call_on s_bits_Len_zero ?_
  simp
  refine call_on s_pdqsort_nil ?_
  simp

theorem s_slices_Sort (xs : List Int) (hx : xs.length < 2 ^ 40) : SoundAt Tryz.prog n_slices_Sort_int_int [.os 1 (ints xs)] (.tup []) [.os 1 (ints (srt xs))] := by
  by_cases hz : xs = []
  · subst hz
    have : srt [] = [] := List.eq_nil_of_length_eq_zero (by rw [srt_length]; rfl)
    rw [this]
    exact s_slices_Sort_nil
  · refine arr_sound (srt_length xs) hz fun blk off cap w hH hb => ?_
    exact Tryz.slices_Sort_int blk off cap xs w hH hb (by omega)

theorem s_slices_Compact (xs : List Int) (hx : xs.length < 2 ^ 40) : SoundAt Tryz.prog 66 [.os 1 (ints xs)] (.os 1 (ints (Lib.compact xs))) [.bot] := by
  by_cases hz : xs = []
  · subst hz
    have hc : Lib.compact ([] : List Int) = [] := List.eq_nil_of_length_eq_zero (by have := compact_le []; simpa using this)
    rw [hc]
    intro w forb us S hr hnd hlt hforb
    have hr0 := hr
    rw [RL] at hr
    obtain ⟨S1, S2, u, us', hS, rfl, h1, h2⟩ := hr
    rw [RL] at h2
    obtain ⟨rfl, rfl⟩ := h2
    rw [List.append_nil] at hS
    subst hS
    have h1' := h1
    rw [R] at h1'
    obtain ⟨a, cap, rfl, hc, _⟩ := h1'
    refine (Tryz.slices_Compact_int_empty a cap w).mono ?_
    rintro e w' ⟨rfl, rfl⟩
    refine ⟨_, S, rfl, ?_, hnd, fun x hx => ⟨hlt x hx, .inr hx⟩, Kept.refl _ _ _⟩
    rw [RL]
    refine ⟨S, [], _, _, by simp, rfl, ?_, by rw [RL]; exact ⟨[], [], _, _, rfl, rfl, by rw [R], by rw [RL]; exact ⟨rfl, rfl⟩⟩⟩
    rw [R] at h1 ⊢
    exact h1
  · refine arr_pref (rest := List.replicate (xs.length - (Lib.compact xs).length) 0) (by have := compact_le xs; simp; omega) hz fun blk off cap w hH hb hcap => ?_
    exact Tryz.slices_Compact_int blk off cap xs w hH (by omega) hcap

theorem s_impl_Region_fair (W T : Int) (cs : List Bool) (ds ls : List Int) (hok : okB W T cs ds ls = true) :
    SoundAt Tryz.prog n_impl_Region_fair [.agg [.v (.int .i64 W), .v (.int .i64 T), .sl 1 1 (bools cs)], .sl 1 1 (ints ds), .sl 1 1 (ints ls)] (.v (.bool (onceB (pairsI W T ds ls)))) [.bot, .bot, .bot] := by
  refine fn_ok (md := md0) (ms := [false, false, false]) k_impl_Region_fair (by simp) ?_
  obtain ⟨hr, e1, e2, _⟩ := okB_W hok
  have hl36 := regB_len hr
  have hlen := pairsTo_length W T ds ls ls.length
  have hb : (pairsI W T ds ls).length ≤ 36 := by unfold pairsI; omega
  simp [c_impl_Region_fair]
  refine call_on (s_impl_Region_pairs W T cs ds ls hok) ?_
  generalize pairsI W T ds ls = xs at *
  have hsl := srt_length xs
  have ht : (srt xs).take xs.length = srt xs := List.take_of_length_le (by omega)
  simp
  refine call_on (s_slices_Sort xs (by omega)) ?_
  simp [hsl]
  refine call_on (s_slices_Clone_int (srt xs) (by omega)) ?_
  simp [hsl, take_ints, ht]
  refine call_on (s_slices_Compact (srt xs) (by omega)) ?_
  simp [hsl, onceB]
  have ho := once_sorted xs
  rw [Bool.eq_iff_iff]
  simp only [beq_iff_eq, decide_eq_true_eq]
  rw [← ho]
  omega

end Go.Proofs.Dev

namespace Go.Proofs.Dev
set_option linter.unusedSimpArgs false
set_option maxRecDepth 100000

def fairB (W T : Int) (cs : List Bool) (ds ls : List Int) : Bool := okB W T cs ds ls && onceB (pairsI W T ds ls)

theorem s_spec_FairOk (W T : Int) (cs : List Bool) (ds ls : List Int) (hb : cs.length < 2 ^ 40) (hd : ds.length < 2 ^ 40) (hl : ls.length < 2 ^ 40) :
    SoundAt Tryz.prog n_spec_FairOk [.agg [.v (.int .i64 W), .v (.int .i64 T), .sl 1 1 (bools cs)], .sl 1 1 (ints ds), .sl 1 1 (ints ls)] (.v (.bool (fairB W T cs ds ls))) [.bot, .bot, .bot] := by
  refine fn_ok (md := md0) (ms := [false, false, false]) k_spec_FairOk (by simp) ?_
  simp [c_spec_FairOk]
  refine call_on (s_spec_PuzzleValid W T cs ds hb hd) ?_
  cases hp : (regB W T cs && digsB cs ds) with
  | false =>
    have hn : okB W T cs ds ls = false := by simp only [okB, ← Bool.and_assoc, hp, Bool.false_and]
    simp [fairB, hn]
  | true =>
  simp
  refine call_on (s_spec_LaidOk W T cs ls hb hl) ?_
  cases hp2 : (regB W T cs && laysB W T cs ls) with
  | false =>
    have hn : okB W T cs ds ls = false := by
      simp only [Bool.and_eq_true] at hp
      rw [hp.1, Bool.true_and] at hp2
      simp [okB, hp2]
    simp [fairB, hn]
  | true =>
  have hok : okB W T cs ds ls = true := by
    simp only [Bool.and_eq_true] at hp hp2
    simp [okB, hp, hp2]
  have hlen := pairsTo_length W T ds ls ls.length
  have hb' : (pairsI W T ds ls).length ≤ ls.length := by unfold pairsI; omega
  simp
  refine call_on (s_spec_PairsOf W T cs ds ls hb hd hl) ?_
  simp [hok]
  refine call_on (s_spec_l9Once (pairsI W T ds ls) (by omega)) ?_
  simp [fairB, hok]

theorem s_impl_FairOk (W T : Int) (cs : List Bool) (ds ls : List Int) (hb : cs.length < 2 ^ 40) (hd : ds.length < 2 ^ 40) (hl : ls.length < 2 ^ 40) :
    SoundAt Tryz.prog n_impl_FairOk [.agg [.v (.int .i64 W), .v (.int .i64 T), .sl 1 1 (bools cs)], .sl 1 1 (ints ds), .sl 1 1 (ints ls)] (.v (.bool (fairB W T cs ds ls))) [.bot, .bot, .bot] := by
  refine fn_ok (md := md0) (ms := [false, false, false]) k_impl_FairOk (by simp) ?_
  simp [c_impl_FairOk]
  refine call_on (s_impl_PuzzleValid W T cs ds hb hd) ?_
  cases hp : (regB W T cs && digsB cs ds) with
  | false =>
    have hn : okB W T cs ds ls = false := by simp only [okB, ← Bool.and_assoc, hp, Bool.false_and]
    simp [fairB, hn]
  | true =>
  simp only [Bool.and_eq_true] at hp
  simp
  refine call_on (s_impl_Region_lays W T cs ls hp.1 hl) ?_
  cases hp2 : laysB W T cs ls with
  | false =>
    have hn : okB W T cs ds ls = false := by simp [okB, hp2]
    simp [fairB, hn]
  | true =>
  have hok : okB W T cs ds ls = true := by simp [okB, hp, hp2]
  simp
  refine call_on (s_impl_Region_fair W T cs ds ls hok) ?_
  simp [fairB, hok]

end Go.Proofs.Dev
