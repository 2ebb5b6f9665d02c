/- Contracts of the functions of the program over slots and rows, each proved against the program itself; no condition beyond those that each theorem names. -/
import Derived.Test.YtlcoaglnegibkaaGreatT

set_option linter.unusedSimpArgs false
set_option linter.unusedVariables false

namespace Go.Proofs.Dev
set_option linter.unusedSimpArgs false
set_option maxRecDepth 100000

theorem optTo_mem (W T : Int) (cs : List Bool) (ds ls : List Int) (cell : Int) {n : Nat} {x : Int} (h : x ∈ optTo W T cs ds ls cell n) : optB W T cs ds ls cell x = true ∧ 1 ≤ x ∧ x ≤ n := by
  simp only [optTo, List.mem_flatMap, List.mem_range] at h
  obtain ⟨k, hk, hx⟩ := h
  split at hx
  · rename_i ho
    simp at hx
    subst hx
    exact ⟨ho, by omega, by omega⟩
  · simp at hx

theorem optB_free {W T : Int} {cs : List Bool} {ds ls : List Int} {cell x : Int} (h : optB W T cs ds ls cell x = true) : freeB W T cs ls cell x = true := by
  simp only [optB, Bool.and_eq_true] at h; exact h.1
theorem optB_fair {W T : Int} {cs : List Bool} {ds ls : List Int} {cell x : Int} (hok : okB W T cs ds ls = true) (h : optB W T cs ds ls cell x = true) : fairB W T cs ds (layI W T ls cell x) = true := by
  have h' := h
  simp only [optB, Bool.and_eq_true] at h'
  simp only [fairB, Bool.and_eq_true]
  exact ⟨okB_lay hok h'.1, h'.2⟩

/-- The cell of the first forced domino, its way, and what is laid then. -/
def oneI (W T : Int) (cs : List Bool) (ds ls : List Int) : Int := firstI (hitB W T cs ds ls 1) ls.length
def wayI (W T : Int) (cs : List Bool) (ds ls : List Int) : Int := ati (optsI W T cs ds ls (oneI W T cs ds ls)) 0
def force1 (W T : Int) (cs : List Bool) (ds ls : List Int) : List Int := if oneI W T cs ds ls < 0 then ls else layI W T ls (oneI W T cs ds ls) (wayI W T cs ds ls)
def force1B (W T : Int) (cs : List Bool) (ds ls : List Int) : Bool := decide (¬ oneI W T cs ds ls < 0)
theorem force1_length (W T : Int) (cs : List Bool) (ds ls : List Int) : (force1 W T cs ds ls).length = ls.length := by
  unfold force1; split
  · rfl
  · exact layI_length ..

theorem one_cases (W T : Int) (cs : List Bool) (ds ls : List Int) : oneI W T cs ds ls = -1 ∨ ∃ k : Nat, k < ls.length ∧ oneI W T cs ds ls = k ∧ atb cs k = true ∧ ati ls k = 0 ∧ optsI W T cs ds ls k = [wayI W T cs ds ls] ∧ optB W T cs ds ls k (wayI W T cs ds ls) = true ∧ 1 ≤ wayI W T cs ds ls ∧ wayI W T cs ds ls ≤ 4 := by
  rcases firstI_cases (hitB W T cs ds ls 1) ls.length with h | ⟨k, hk, hp, he⟩
  · left; exact h
  · right
    have he' : oneI W T cs ds ls = k := he
    simp only [hitB, Bool.and_eq_true, decide_eq_true_eq] at hp
    have h1 : (optsI W T cs ds ls k).length = 1 := by omega
    obtain ⟨x, hx⟩ := List.length_eq_one_iff.1 h1
    have hw : wayI W T cs ds ls = x := by simp [wayI, he', hx, ati]
    have hin : x ∈ optsI W T cs ds ls k := by rw [hx]; simp
    have hm := optTo_mem W T cs ds ls k (n := 4) (x := x) hin
    rw [hw]
    exact ⟨k, hk, he', hp.1.1, hp.1.2, hx, hm.1, hm.2.1, hm.2.2⟩

theorem s_impl_Region_force (W T : Int) (cs : List Bool) (ds ls : List Int) (hok : okB W T cs ds ls = true) :
    SoundAt Tryz.prog n_impl_Region_force [.agg [.v (.int .i64 W), .v (.int .i64 T), .sl 1 1 (bools cs)], .sl 1 1 (ints ds), .sl 1 1 (ints ls)] (.tup [.os 1 (ints (force1 W T cs ds ls)), .v (.bool (force1B W T cs ds ls))]) [.bot, .bot, .bot] := by
  refine fn_ok (md := md0) (ms := [false, false, false]) k_impl_Region_force (by simp) ?_
  obtain ⟨hr, e1, e2, _⟩ := okB_W hok
  have h36 := regB_len hr
  simp [c_impl_Region_force]
  refine call_on (s_impl_Region_first W T cs ds ls 1 hok) ?_
  have hcl := s_impl_clone_int ls (by omega)
  have e0 : firstI (hitB W T cs ds ls 1) ls.length = oneI W T cs ds ls := rfl
  rw [e0]
  rcases one_cases W T cs ds ls with h | ⟨k, hk, he, hc, hz, ho, hob, hw⟩
  · simp [h]
    refine call_on hcl ?_
    simp [force1, force1B, h]
  have two := s_impl_Region_options W T cs ds ls k hok
  have three := s_impl_Region_lay W T cs ls k (wayI W T cs ds ls) hr e2 (optB_free hob)
  have ef : force1 W T cs ds ls = layI W T ls k (wayI W T cs ds ls) := by rw [force1, he, if_neg (by omega)]
  have eb : force1B W T cs ds ls = true := by rw [force1B, he]; exact decide_eq_true (by omega)
  rw [ef, eb, he]
  rw [ho] at two
  have hk0 : ¬ (k : Int) < 0 := by omega
  have hin : ints [wayI W T cs ds ls] = [.v (.int .i64 (wayI W T cs ds ls))] := rfl
  rw [hin] at two
  have hlay := layI_length W T ls k (wayI W T cs ds ls)
  have htk : (ints (layI W T ls k (wayI W T cs ds ls))).take ls.length = ints (layI W T ls k (wayI W T cs ds ls)) := List.take_of_length_le (by simp [hlay])
  simp [hk0]
  (repeat' first | assumption | apply And.intro) <;>
  · refine call_on two ?_
    simp
    (repeat' first | assumption | apply And.intro) <;>
    · refine call_on three ?_
      simp [hlay, htk]

/-- What ForceOne gives. -/
def forceL (W T : Int) (cs : List Bool) (ds ls : List Int) : List Int := if fairB W T cs ds ls then force1 W T cs ds ls else []
def forceB (W T : Int) (cs : List Bool) (ds ls : List Int) : Bool := fairB W T cs ds ls && force1B W T cs ds ls

theorem s_impl_ForceOne (W T : Int) (cs : List Bool) (ds ls : List Int) (hb : cs.length < 2 ^ 40) (hd : ds.length < 2 ^ 40) (hl : ls.length < 2 ^ 40) :
    SoundAt Tryz.prog n_impl_ForceOne [.agg [.v (.int .i64 W), .v (.int .i64 T), .sl 1 1 (bools cs)], .sl 1 1 (ints ds), .sl 1 1 (ints ls)] (.tup [.os 1 (ints (forceL W T cs ds ls)), .v (.bool (forceB W T cs ds ls))]) [.bot, .bot, .bot] := by
  refine fn_ok (md := md0) (ms := [false, false, false]) k_impl_ForceOne (by simp) ?_
  simp [c_impl_ForceOne]
  refine call_on (s_impl_FairOk W T cs ds ls hb hd hl) ?_
  cases hf : fairB W T cs ds ls with
  | false => simp [forceL, forceB, hf]
  | true =>
  simp
  refine call_on (s_impl_Region_force W T cs ds ls (fairB_ok hf)) ?_
  have h1 := force1_length W T cs ds ls
  have htk : (ints (force1 W T cs ds ls)).take ls.length = ints (force1 W T cs ds ls) := List.take_of_length_le (by simp [h1])
  simp [forceL, forceB, hf, h1, htk]

theorem s_spec_ForceOne (W T : Int) (cs : List Bool) (ds ls : List Int) (hb : cs.length < 2 ^ 40) (hd : ds.length < 2 ^ 40) (hl : ls.length < 2 ^ 40) :
    SoundAt Tryz.prog n_spec_ForceOne [.agg [.v (.int .i64 W), .v (.int .i64 T), .sl 1 1 (bools cs)], .sl 1 1 (ints ds), .sl 1 1 (ints ls)] (.tup [.os 1 (ints (forceL W T cs ds ls)), .v (.bool (forceB W T cs ds ls))]) [.bot, .bot, .bot] := by
  refine fn_ok (md := md0) (ms := [false, false, false]) k_spec_ForceOne (by simp) ?_
  simp [c_spec_ForceOne]
  refine call_on (s_spec_FairOk W T cs ds ls hb hd hl) ?_
  cases hf : fairB W T cs ds ls with
  | false => simp [forceL, forceB, hf]
  | true =>
  have hok := fairB_ok hf
  obtain ⟨hr, e1, e2, _⟩ := okB_W hok
  have hly : laysB W T cs ls = true := by
    simp only [okB, Bool.and_eq_true] at hok; exact hok.2.2
  have eL : forceL W T cs ds ls = force1 W T cs ds ls := by simp [forceL, hf]
  have eB : forceB W T cs ds ls = force1B W T cs ds ls := by simp [forceB, hf]
  rw [eL, eB]
  simp
  refine loop_by (fun m E H => ∃ i : Nat, m = ls.length - i ∧ i ≤ ls.length ∧ (∀ j : Nat, j < i → hitB W T cs ds ls 1 j = false) ∧ H = [some (.box [.v (.int .i64 W), .v (.int .i64 T), .sl 1 1 (bools cs)])] ∧
    E = [(1, .sl 1 1 (ints ds)), (2, .sl 1 1 (ints ls)), (3, .lp 0 0 0 0), (8, .v (.int .i64 i))]) ls.length ⟨0, by simp⟩ ?_
  rintro J hJ m E H ⟨i, rfl, hi, ha, rfl, rfl⟩
  by_cases h : i < ls.length
  case neg =>
    have : i = ls.length := by omega
    subst this
    have he : oneI W T cs ds ls = -1 := firstI_none ha
    simp [c_spec_ForceOne_L0, force1, force1B, he]
    constructor <;> omega
  have next : hitB W T cs ds ls 1 i = false → again J (ls.length - i) [(1, .sl 1 1 (ints ds)), (2, .sl 1 1 (ints ls)), (3, .lp 0 0 0 0), (8, .v (.int .i64 (i + 1)))]
      [some (.box [.v (.int .i64 W), .v (.int .i64 T), .sl 1 1 (bools cs)])] := by
    intro hx
    refine ⟨_, by omega, hJ _ _ _ ⟨i + 1, rfl, h, ?_, rfl, rfl⟩⟩
    intro j hj
    rcases Nat.lt_or_ge j i with h1 | h1
    · exact ha j h1
    · have : j = i := by omega
      subst this; exact hx
  have hit : hitB W T cs ds ls 1 i = true → oneI W T cs ds ls = i := fun hx => firstI_hit h hx ha
  have two := s_spec_OptionsOf W T cs ds ls i hb hd hl
  have ho : optsOf W T cs ds ls i = optsI W T cs ds ls i := by simp [optsOf, hf]
  rw [ho] at two
  have hop : (optsI W T cs ds ls i).length ≤ 4 := optTo_length ..
  simp [c_spec_ForceOne_L0, h]
  refine call_on two ?_
  by_cases hn : (optsI W T cs ds ls i).length = 1
  case neg =>
    have hn' : ¬ ((optsI W T cs ds ls i).length : Int) = 1 := by omega
    have hx : hitB W T cs ds ls 1 i = false := by simp [hitB, hn']
    simp [hn']
    exact ⟨by omega, next hx⟩
  have hbare : 0 ≤ (i : Int) ∧ (i : Int) < cs.length ∧ atb cs i = true ∧ ati ls i = 0 := by
    apply Decidable.byContradiction
    intro hx
    rw [optsI_bare W T cs ds ls i hx] at hn
    simp at hn
  have hx : hitB W T cs ds ls 1 i = true := by simp [hitB, hbare.2.2.1, hbare.2.2.2, hn]
  have he := hit hx
  rcases one_cases W T cs ds ls with h1 | ⟨k, hk, he2, hc, hz, hol, hob, hw⟩
  · omega
  have hki : k = i := by omega
  subst hki
  have three := s_spec_LayOne W T cs ls k (wayI W T cs ds ls) hr hly
  have ef : force1 W T cs ds ls = layI W T ls k (wayI W T cs ds ls) := by rw [force1, he, if_neg (by omega)]
  have eb : force1B W T cs ds ls = true := by rw [force1B, he]; exact decide_eq_true (by omega)
  have hfr := optB_free hob
  have elay : layOneL W T cs ls k (wayI W T cs ds ls) = layI W T ls k (wayI W T cs ds ls) := by simp [layOneL, hfr]
  rw [elay, hfr] at three
  rw [ef, eb]
  have hin : ints [wayI W T cs ds ls] = [.v (.int .i64 (wayI W T cs ds ls))] := rfl
  have hlay := layI_length W T ls k (wayI W T cs ds ls)
  have htk : (ints (layI W T ls k (wayI W T cs ds ls))).take ls.length = ints (layI W T ls k (wayI W T cs ds ls)) := List.take_of_length_le (by simp [hlay])
  simp [hol, hin]
  (repeat' first | assumption | apply And.intro) <;>
  · refine call_on three ?_
    simp [hlay, htk]

end Go.Proofs.Dev

namespace Go.Proofs.Dev
set_option linter.unusedSimpArgs false
set_option maxRecDepth 100000

def zeros (ls : List Int) : Nat := ls.countP (fun x => decide (x = 0))

theorem zeros_set_le {ls : List Int} {i : Nat} {v : Int} (hv : v ≠ 0) : zeros (ls.set i v) ≤ zeros ls := by
  by_cases h : i < ls.length
  · unfold zeros
    rw [List.countP_set h]
    simp [hv]
  · rw [List.set_eq_of_length_le (by omega)]; exact Nat.le_refl _
theorem zeros_set_lt {ls : List Int} {i : Nat} {v : Int} (h : i < ls.length) (hz : ati ls i = 0) (hv : v ≠ 0) : zeros (ls.set i v) < zeros ls := by
  have he : ls[i] = 0 := by simpa [ati, h] using hz
  have hp : 0 < zeros ls := by
    unfold zeros
    rw [List.countP_pos_iff]
    exact ⟨ls[i], List.getElem_mem h, by simp [he]⟩
  unfold zeros at hp ⊢
  rw [List.countP_set h]
  simp [hv, he]
  omega

def forceAllN (W T : Int) (cs : List Bool) (ds : List Int) : Nat → List Int → List Int
  | 0, ls => ls
  | n + 1, ls => if force1B W T cs ds ls then forceAllN W T cs ds n (force1 W T cs ds ls) else ls

theorem force1_zeros {W T : Int} {cs : List Bool} {ds ls : List Int} (h : force1B W T cs ds ls = true) : zeros (force1 W T cs ds ls) < zeros ls := by
  rcases one_cases W T cs ds ls with h1 | ⟨k, hk, he, hc, hz, hol, hob, hw⟩
  · simp [force1B, h1] at h
  · rw [force1, he, if_neg (by omega)]
    have hb : backI (wayI W T cs ds ls) ≠ 0 := by
      have := (backI_back hw.1 hw.2).2
      omega
    refine Nat.lt_of_le_of_lt (zeros_set_le hb) ?_
    exact zeros_set_lt (by omega) (by simpa using hz) (by omega)

theorem force1_fair {W T : Int} {cs : List Bool} {ds ls : List Int} (hf : fairB W T cs ds ls = true) : fairB W T cs ds (force1 W T cs ds ls) = true := by
  rcases one_cases W T cs ds ls with h1 | ⟨k, hk, he, hc, hz, hol, hob, hw⟩
  · simp [force1, h1, hf]
  · rw [force1, he, if_neg (by omega)]
    exact optB_fair (fairB_ok hf) hob

def forceAllI (W T : Int) (cs : List Bool) (ds ls : List Int) : List Int := forceAllN W T cs ds ls.length ls
def forceAllL (W T : Int) (cs : List Bool) (ds ls : List Int) : List Int := if fairB W T cs ds ls then forceAllI W T cs ds ls else []
theorem forceAllN_length (W T : Int) (cs : List Bool) (ds : List Int) : ∀ (n : Nat) (ls : List Int), (forceAllN W T cs ds n ls).length = ls.length
  | 0, ls => rfl
  | n + 1, ls => by
    rw [forceAllN]; split
    · rw [forceAllN_length, force1_length]
    · rfl
theorem zeros_le (ls : List Int) : zeros ls ≤ ls.length := List.countP_le_length

/-- One step of forcing, at a count that is enough. -/
theorem forceAllN_step {W T : Int} {cs : List Bool} {ds ls : List Int} {n : Nat} (hn : zeros ls ≤ n) :
    (force1B W T cs ds ls = false ∧ forceAllN W T cs ds n ls = ls) ∨ (∃ m, n = m + 1 ∧ force1B W T cs ds ls = true ∧ zeros (force1 W T cs ds ls) ≤ m ∧ forceAllN W T cs ds n ls = forceAllN W T cs ds m (force1 W T cs ds ls)) := by
  cases hb : force1B W T cs ds ls with
  | false =>
    left
    refine ⟨rfl, ?_⟩
    cases n with
    | zero => rfl
    | succ m => simp [forceAllN, hb]
  | true =>
    right
    have hz := force1_zeros hb
    cases n with
    | zero => omega
    | succ m => exact ⟨m, rfl, rfl, by omega, by simp [forceAllN, hb]⟩

theorem s_impl_Region_forceAll (W T : Int) (cs : List Bool) (ds ls : List Int) (hf : fairB W T cs ds ls = true) :
    SoundAt Tryz.prog n_impl_Region_forceAll [.agg [.v (.int .i64 W), .v (.int .i64 T), .sl 1 1 (bools cs)], .sl 1 1 (ints ds), .sl 1 1 (ints ls)] (.os 1 (ints (forceAllI W T cs ds ls))) [.bot, .bot, .bot] := by
  refine fn_ok (md := md0) (ms := [false, false, false]) k_impl_Region_forceAll (by simp) ?_
  obtain ⟨hr, e1, e2, _⟩ := okB_W (fairB_ok hf)
  have h36 := regB_len hr
  simp [c_impl_Region_forceAll]
  refine loop_by (fun m E H => ∃ l, zeros l ≤ m ∧ l.length = ls.length ∧ fairB W T cs ds l = true ∧ forceAllN W T cs ds m l = forceAllI W T cs ds ls ∧
    ((H = [some (.box [.v (.int .i64 W), .v (.int .i64 T), .sl 1 1 (bools cs)])] ∧ E = [(1, .sl 1 1 (ints ds)), (2, .sl 1 1 (ints l)), (3, .lp 0 0 0 0)]) ∨
     (H = [some (.arr 1 (ints l)), some (.box [.v (.int .i64 W), .v (.int .i64 T), .sl 1 1 (bools cs)])] ∧ E = [(1, .sl 1 1 (ints ds)), (2, .ls 1 0 0 ls.length), (3, .lp 0 1 0 0)]))) ls.length ⟨ls, zeros_le ls, rfl, hf, rfl, .inl (by simp)⟩ ?_
  rintro J hJ m E H ⟨l, hz, hll, hfl, hn, hEH⟩
  have one := s_impl_Region_force W T cs ds l (fairB_ok hfl)
  have hfl2 := force1_fair hfl
  have h1 := force1_length W T cs ds l
  have htk : (ints (force1 W T cs ds l)).take ls.length = ints (force1 W T cs ds l) := List.take_of_length_le (by simp [h1, hll])
  have htl : (ints l).take ls.length = ints l := List.take_of_length_le (by simp [hll])
  rcases hEH with ⟨rfl, rfl⟩ | ⟨rfl, rfl⟩ <;>
  · simp [c_impl_Region_forceAll_L0, htl]
    refine call_on one ?_
    rcases forceAllN_step (W := W) (T := T) (cs := cs) (ds := ds) hz with ⟨hbb, hx⟩ | ⟨k, rfl, hbb, hz2, hx⟩
    · have e9 : force1 W T cs ds l = l := by simp [force1B] at hbb; simp [force1, hbb]
      simp [hbb, h1, hll, htk, htl, e9, ← hn, hx]
    · simp [hbb, h1, hll, htk, htl]
      exact ⟨_, by omega, hJ _ _ _ ⟨force1 W T cs ds l, hz2, by omega, hfl2, by rw [← hx, hn], .inr ⟨rfl, rfl⟩⟩⟩

theorem s_impl_ForceAll (W T : Int) (cs : List Bool) (ds ls : List Int) (hb : cs.length < 2 ^ 40) (hd : ds.length < 2 ^ 40) (hl : ls.length < 2 ^ 40) :
    SoundAt Tryz.prog n_impl_ForceAll [.agg [.v (.int .i64 W), .v (.int .i64 T), .sl 1 1 (bools cs)], .sl 1 1 (ints ds), .sl 1 1 (ints ls)] (.os 1 (ints (forceAllL W T cs ds ls))) [.bot, .bot, .bot] := by
  refine fn_ok (md := md0) (ms := [false, false, false]) k_impl_ForceAll (by simp) ?_
  simp [c_impl_ForceAll]
  refine call_on (s_impl_FairOk W T cs ds ls hb hd hl) ?_
  cases hf : fairB W T cs ds ls with
  | false => simp [forceAllL, hf]
  | true =>
  simp
  refine call_on (s_impl_Region_forceAll W T cs ds ls hf) ?_
  simp [forceAllL, hf]

theorem s_spec_ForceAll (W T : Int) (cs : List Bool) (ds ls : List Int) (hb : cs.length < 2 ^ 40) (hd : ds.length < 2 ^ 40) (hl : ls.length < 2 ^ 40) :
    SoundAt Tryz.prog n_spec_ForceAll [.agg [.v (.int .i64 W), .v (.int .i64 T), .sl 1 1 (bools cs)], .sl 1 1 (ints ds), .sl 1 1 (ints ls)] (.os 1 (ints (forceAllL W T cs ds ls))) [.bot, .bot, .bot] := by
  refine fn_ok (md := md0) (ms := [false, false, false]) k_spec_ForceAll (by simp) ?_
  simp [c_spec_ForceAll]
  refine call_on (s_spec_FairOk W T cs ds ls hb hd hl) ?_
  cases hf : fairB W T cs ds ls with
  | false => simp [forceAllL, hf]
  | true =>
  simp
  refine ⟨by omega, ?_⟩
  refine loop_by (fun m E H => ∃ l, zeros l ≤ m ∧ l.length = ls.length ∧ fairB W T cs ds l = true ∧ forceAllN W T cs ds m l = forceAllI W T cs ds ls ∧ H = [some (.box [.v (.int .i64 W), .v (.int .i64 T), .sl 1 1 (bools cs)]), some (.arr 1 (ints l))] ∧
    E = [(1, .sl 1 1 (ints ds)), (3, .lp 0 0 0 0), (7, .ls 1 1 0 ls.length)]) ls.length ⟨ls, zeros_le ls, rfl, hf, rfl, by simp⟩ ?_
  rintro J hJ m E H ⟨l, hz, hll, hfl, hn, rfl, rfl⟩
  have one := s_spec_ForceOne W T cs ds l hb hd (by omega)
  have eL : forceL W T cs ds l = force1 W T cs ds l := by simp [forceL, hfl]
  have eB : forceB W T cs ds l = force1B W T cs ds l := by simp [forceB, hfl]
  rw [eL, eB] at one
  have hfl2 := force1_fair hfl
  have h1 := force1_length W T cs ds l
  have htk : (ints (force1 W T cs ds l)).take ls.length = ints (force1 W T cs ds l) := List.take_of_length_le (by simp [h1, hll])
  have htl : (ints l).take ls.length = ints l := List.take_of_length_le (by simp [hll])
  simp [c_spec_ForceAll_L0, htl]
  refine call_on one ?_
  rcases forceAllN_step (W := W) (T := T) (cs := cs) (ds := ds) hz with ⟨hbb, hx⟩ | ⟨k, rfl, hbb, hz2, hx⟩
  · simp [hbb, h1, hll, htk, htl, forceAllL, hf, ← hn, hx]
  · simp [hbb, h1, hll, htk, htl]
    exact ⟨_, by omega, hJ _ _ _ ⟨force1 W T cs ds l, hz2, by omega, hfl2, by rw [← hx, hn], rfl, rfl⟩⟩

end Go.Proofs.Dev
