/- Contracts of the functions of the program over slots and rows, each proved against the program itself; no condition beyond those that each theorem names. -/
import Derived.Test.YtlcoaglnegibkaaP

set_option linter.unusedSimpArgs false
set_option linter.unusedVariables false

namespace Go.Proofs.Dev
set_option linter.unusedSimpArgs false
set_option maxRecDepth 100000

def namesB (ns : List Int) : Bool := decide (ns.length = 7) && (onceB ns && allB ns.length (fun k => decide (0 ≤ ati ns k ∧ ati ns k ≤ 6)))
def nameI (ns : List Int) (d : Int) : Int := if 0 ≤ d then ati ns d else d
def relI (W T : Int) (cs : List Bool) (ds ns : List Int) : List Int := if (regB W T cs && digsB cs ds && namesB ns) = true then ds.map (nameI ns) else []

theorem ati_mem {xs : List Int} {i : Nat} (h : i < xs.length) : ati xs i ∈ xs := by simp [ati, h]
theorem mem_ati {xs : List Int} {x : Int} (h : x ∈ xs) : ∃ i : Nat, i < xs.length ∧ ati xs i = x := by
  obtain ⟨i, hi, rfl⟩ := List.getElem_of_mem h
  exact ⟨i, hi, by simp [ati, hi]⟩

/-- Seven numbers are 0 to 6, each once, exactly if sorted they are so. -/
theorem names_sorted {ns : List Int} (h7 : ns.length = 7) : (∀ i : Nat, i < 7 → ati (srt ns) i = i) ↔ (ns.Nodup ∧ ∀ k : Nat, k < ns.length → 0 ≤ ati ns k ∧ ati ns k ≤ 6) := by
  have hl : (srt ns).length = 7 := by rw [srt_length, h7]
  constructor
  · intro h
    constructor
    · refine (srt_perm ns).nodup_iff.1 (List.pairwise_iff_getElem.2 fun i j hi hj hij => ?_)
      have e1 := h i (by omega)
      have e2 := h j (by omega)
      simp [ati, hi] at e1
      simp [ati, hj] at e2
      omega
    · intro k hk
      have hm : ati ns k ∈ srt ns := (srt_perm ns).mem_iff.2 (ati_mem hk)
      obtain ⟨i, hi, e⟩ := mem_ati hm
      have := h i (by omega)
      omega
  · rintro ⟨hn, hr⟩
    have hn' := (srt_perm ns).nodup_iff.2 hn
    have lt : ∀ i j : Nat, i < j → j < 7 → ati (srt ns) i < ati (srt ns) j := by
      intro i j hij hj
      have h1 := List.pairwise_iff_getElem.1 (srt_sorted ns) i j (by omega) (by omega) hij
      have h2 := List.pairwise_iff_getElem.1 hn' i j (by omega) (by omega) hij
      have hi' : i < (srt ns).length := by omega
      have hj' : j < (srt ns).length := by omega
      simp [ati, hi', hj']
      omega
    have rg : ∀ i : Nat, i < 7 → 0 ≤ ati (srt ns) i ∧ ati (srt ns) i ≤ 6 := by
      intro i hi
      have hm : ati (srt ns) i ∈ ns := (srt_perm ns).mem_iff.1 (ati_mem (by omega))
      obtain ⟨k, hk, e⟩ := mem_ati hm
      have := hr k hk
      omega
    have l01 := lt 0 1 (by omega) (by omega)
    have l12 := lt 1 2 (by omega) (by omega)
    have l23 := lt 2 3 (by omega) (by omega)
    have l34 := lt 3 4 (by omega) (by omega)
    have l45 := lt 4 5 (by omega) (by omega)
    have l56 := lt 5 6 (by omega) (by omega)
    have r0 := (rg 0 (by omega)).1
    have r6 := (rg 6 (by omega)).2
    intro i hi
    match i, hi with
    | 0, _ => omega
    | 1, _ => omega
    | 2, _ => omega
    | 3, _ => omega
    | 4, _ => omega
    | 5, _ => omega
    | 6, _ => omega

theorem digs_get {cs : List Bool} {ds : List Int} (h : digsB cs ds = true) {k : Nat} (hk : k < ds.length) : ati ds k = -1 ∨ (0 ≤ ati ds k ∧ ati ds k ≤ 6) := by
  simp only [digsB, Bool.and_eq_true, decide_eq_true_eq, allB_iff] at h
  have := h.2 k hk
  simp only [digAt] at this
  split at this <;> simp at this
  · right; exact this
  · left; exact this

/-- A list of which the first i elements are changed. -/
def half (f : Int → Int) (ds : List Int) (i : Nat) : List Int := (ds.take i).map f ++ ds.drop i
theorem half_zero (f : Int → Int) (ds : List Int) : half f ds 0 = ds := by simp [half]
theorem half_all (f : Int → Int) (ds : List Int) : half f ds ds.length = ds.map f := by simp [half]
theorem half_length (f : Int → Int) (ds : List Int) (i : Nat) : (half f ds i).length = ds.length := by simp [half]; omega
theorem half_get (f : Int → Int) {ds : List Int} {i : Nat} (h : i < ds.length) : (ints (half f ds i))[i]? = some (.v (.int .i64 (ati ds i))) := by
  have e : (half f ds i)[i]? = some ds[i] := by
    unfold half
    rw [List.getElem?_append_right (by simp; omega)]
    simp [Nat.min_eq_left (Nat.le_of_lt h), h]
  simp only [ints, List.getElem?_map, e, Option.map_some]
  simp [ati, h]
theorem ints_getE (xs : List Int) (i : Nat) (h : i < (ints xs).length) : (ints xs)[i] = .v (.int .i64 (xs[i]'(by simpa using h))) := by simp [ints]
theorem half_getE (f : Int → Int) {ds : List Int} {i : Nat} (h : i < (half f ds i).length) : (half f ds i)[i] = ati ds i := by
  have h2 : i < ds.length := by rw [half_length] at h; exact h
  have e : (half f ds i)[i]? = some (ati ds i) := by
    unfold half
    rw [List.getElem?_append_right (by simp; omega)]
    simp [ati, Nat.min_eq_left (Nat.le_of_lt h2), h2]
  rw [List.getElem?_eq_getElem h] at e
  exact Option.some.inj e
theorem half_set (f : Int → Int) {ds : List Int} {i : Nat} (h : i < ds.length) : (ints (half f ds i)).set i (.v (.int .i64 (f (ati ds i)))) = ints (half f ds (i + 1)) := by
  unfold half
  rw [ints_set, set_mid _ _ _ _ (by simp; omega) h, List.take_succ_eq_append_getElem h, List.map_append]
  simp [ati, h]
theorem half_same (f : Int → Int) {ds : List Int} {i : Nat} (h : i < ds.length) (e : f (ati ds i) = ati ds i) : half f ds i = half f ds (i + 1) := by
  unfold half
  rw [List.take_succ_eq_append_getElem h, List.map_append, List.drop_eq_getElem_cons h]
  have : f ds[i] = ds[i] := by simpa [ati, h] using e
  simp [this]

theorem s_spec_Relabel (W T : Int) (cs : List Bool) (ds ns : List Int) (hb : cs.length < 2 ^ 40) (hd : ds.length < 2 ^ 40) (hl : ns.length < 2 ^ 40) :
    SoundAt Try.prog n_spec_Relabel [.agg [.v (.int .i64 W), .v (.int .i64 T), .sl 1 1 (bools cs)], .sl 1 1 (ints ds), .sl 1 1 (ints ns)] (.os 1 (ints (relI W T cs ds ns))) [.bot, .bot, .bot] := by
  refine fn_ok (md := md0) (ms := [false, false, false]) k_spec_Relabel (by simp) ?_
  simp [c_spec_Relabel]
  refine call_on (s_spec_PuzzleValid W T cs ds hb hd) ?_
  cases hp : (regB W T cs && digsB cs ds) with
  | false => simp [relI, hp]
  | true =>
  have hdg : digsB cs ds = true := by simp only [Bool.and_eq_true] at hp; exact hp.2
  by_cases h7 : ns.length = 7
  case neg =>
    have h7' : ¬ (ns.length : Int) = 7 := by omega
    simp [relI, hp, namesB, h7, h7']
  have h7' : (ns.length : Int) = 7 := by omega
  simp [h7']
  refine call_on (s_spec_l9Once ns hl) ?_
  cases ho : onceB ns with
  | false => simp [relI, hp, namesB, ho]
  | true =>
  simp
  refine loop_by (fun m E H => ∃ i : Nat, m = ns.length - i ∧ i ≤ ns.length ∧ allB i (fun k => decide (0 ≤ ati ns k ∧ ati ns k ≤ 6)) = true ∧ H = [] ∧ E = [(1, .sl 1 1 (ints ds)), (2, .sl 1 1 (ints ns)), (7, .v (.int .i64 i))]) ns.length ⟨0, by simp [allB_zero]⟩ ?_
  rintro J hJ m E H ⟨i, rfl, hi, ha, rfl, rfl⟩
  by_cases h : i < ns.length
  · simp [c_spec_Relabel_L0, h]
    have := s_spec_l1In (ati ns i) 0 6
    refine call_on (s_spec_l1In (ati ns i) 0 6) ?_
    by_cases hx : 0 ≤ ati ns i ∧ ati ns i ≤ 6
    · simp [hx]
      exact ⟨by omega, _, by omega, hJ _ _ _ ⟨i + 1, rfl, h, by rw [allB_succ, ha]; simp [hx], rfl, rfl⟩⟩
    · have hf : namesB ns = false := by
        simp only [namesB, ho, h7, decide_true, Bool.true_and]
        exact allB_false (by omega) (decide_eq_false hx)
      have hx2 : (decide (0 ≤ ati ns i) && decide (ati ns i ≤ 6)) = false := by simp; omega
      simp [hx2, relI, hf]
  have : i = ns.length := by omega
  subst this
  have hn : namesB ns = true := by
    simp only [namesB, ho, h7, decide_true, Bool.true_and]
    rw [h7] at ha; exact ha
  have hrel : relI W T cs ds ns = ds.map (nameI ns) := by simp [relI, hp, hn]
  simp [c_spec_Relabel_L0, hrel]
  refine ⟨by omega, ?_⟩
  refine loop_by (fun m E H => ∃ i : Nat, m = ds.length - i ∧ i ≤ ds.length ∧ H = [some (.arr 1 (ints (half (nameI ns) ds i)))] ∧ E = [(2, .sl 1 1 (ints ns)), (8, .ls 1 0 0 ds.length), (9, .v (.int .i64 i))]) ds.length ⟨0, by simp [half_zero]⟩ ?_
  rintro J hJ m E H ⟨i, rfl, hi, rfl, rfl⟩
  by_cases h : i < ds.length
  · have g := half_get (nameI ns) h
    have st := half_set (nameI ns) h
    have sm := half_same (nameI ns) h
    have hlen := half_length (nameI ns) ds i
    rcases digs_get hdg h with hk | hk
    · have hk2 : nameI ns (ati ds i) = ati ds i := by rw [hk]; simp [nameI]
      rw [hk] at g
      simp [c_spec_Relabel_L1, h, hlen, ints_getE, half_getE, hk]
      exact ⟨by omega, _, by omega, hJ _ _ _ ⟨i + 1, rfl, h, by rw [sm hk2], rfl⟩⟩
    · have hlt : ati ds i < 7 := by omega
      have hk2 : nameI ns (ati ds i) = ati ns (ati ds i) := by simp [nameI, hk.1]
      rw [hk2] at st
      simp [c_spec_Relabel_L1, h, hlen, ints_getE, half_getE, hk, h7', hlt, st]
      exact ⟨by omega, _, by omega, hJ _ _ _ ⟨i + 1, rfl, h, rfl, rfl⟩⟩
  · have : i = ds.length := by omega
    subst this
    simp [c_spec_Relabel_L1, half_all]
    exact List.take_of_length_le (by simp)

theorem s_impl_Relabel (W T : Int) (cs : List Bool) (ds ns : List Int) (hb : cs.length < 2 ^ 40) (hd : ds.length < 2 ^ 40) (hl : ns.length < 2 ^ 40) :
    SoundAt Try.prog n_impl_Relabel [.agg [.v (.int .i64 W), .v (.int .i64 T), .sl 1 1 (bools cs)], .sl 1 1 (ints ds), .sl 1 1 (ints ns)] (.os 1 (ints (relI W T cs ds ns))) [.bot, .bot, .bot] := by
  refine fn_ok (md := md0) (ms := [false, false, false]) k_impl_Relabel (by simp) ?_
  simp [c_impl_Relabel]
  refine call_on (s_impl_PuzzleValid W T cs ds hb hd) ?_
  cases hp : (regB W T cs && digsB cs ds) with
  | false => simp [relI, hp]
  | true =>
  have hdg : digsB cs ds = true := by simp only [Bool.and_eq_true] at hp; exact hp.2
  by_cases h7 : ns.length = 7
  case neg =>
    have h7' : ¬ (ns.length : Int) = 7 := by omega
    simp [relI, hp, namesB, h7, h7']
  have h7' : (ns.length : Int) = 7 := by omega
  simp [h7']
  refine call_on (s_slices_Clone_int ns hl) ?_
  simp
  refine call_on (s_slices_Sort ns hl) ?_
  have hs7 : (srt ns).length = 7 := by rw [srt_length, h7]
  have key := names_sorted h7
  have hnb : namesB ns = true ↔ (ns.Nodup ∧ ∀ k : Nat, k < ns.length → 0 ≤ ati ns k ∧ ati ns k ≤ 6) := by
    simp only [namesB, h7, decide_true, Bool.true_and, Bool.and_eq_true, onceB, decide_eq_true_eq, allB_iff]
  generalize hss : srt ns = ss at *
  simp [h7, hs7]
  refine loop_by (fun m E H => ∃ i : Nat, m = 7 - i ∧ i ≤ 7 ∧ (∀ k : Nat, k < i → ati ss k = k) ∧ H = [some (.arr 1 (ints ss))] ∧ E = [(1, .sl 1 1 (ints ds)), (2, .sl 1 1 (ints ns)), (26, .ls 1 0 0 7), (27, .v (.int .i64 7)), (28, .v (.int .i64 i))]) 7 ⟨0, by simp⟩ ?_
  rintro J hJ m E H ⟨i, rfl, hi, ha, rfl, rfl⟩
  by_cases h : i < 7
  · have hi7 : i < ss.length := by omega
    have h' : (i : Int) < 7 := by omega
    have e : ss[i] = ati ss i := by simp [ati, hi7]
    simp [c_impl_Relabel_L0, h, h', hs7, ints_getE, e]
    by_cases hx : ati ss i = i
    · simp [hx]
      refine ⟨by omega, _, by omega, hJ _ _ _ ⟨i + 1, rfl, h, ?_, rfl, rfl⟩⟩
      intro k hk
      rcases Nat.lt_or_ge k i with h1 | h1
      · exact ha k h1
      · have : k = i := by omega
        subst this; exact hx
    · have hf : namesB ns = false := by
        cases hnn : namesB ns with
        | false => rfl
        | true => exact absurd (key.2 (hnb.1 hnn) i h) hx
      simp [hx, relI, hf]
  have : i = 7 := by omega
  subst this
  have hn : namesB ns = true := hnb.2 (key.1 ha)
  have hrel : relI W T cs ds ns = ds.map (nameI ns) := by simp [relI, hp, hn]
  simp [c_impl_Relabel_L0, hrel]
  refine call_on (s_impl_clone_int ds hd) ?_
  simp
  refine loop_by (fun m E H => ∃ i : Nat, m = ds.length - i ∧ i ≤ ds.length ∧ H = [some (.arr 1 (ints (half (nameI ns) ds i)))] ∧ E = [(2, .sl 1 1 (ints ns)), (10, .ls 1 0 0 ds.length), (39, .sl 1 1 (ints ds)), (40, .v (.int .i64 ds.length)), (41, .v (.int .i64 i))]) ds.length ⟨0, by simp [half_zero]⟩ ?_
  rintro J hJ m E H ⟨i, rfl, hi, rfl, rfl⟩
  by_cases h : i < ds.length
  · have st := half_set (nameI ns) h
    have sm := half_same (nameI ns) h
    have hlen := half_length (nameI ns) ds i
    rcases digs_get hdg h with hk | hk
    · have hk2 : nameI ns (ati ds i) = ati ds i := by rw [hk]; simp [nameI]
      simp [c_impl_Relabel_L1, h, hlen, hk]
      exact ⟨by omega, _, by omega, hJ _ _ _ ⟨i + 1, rfl, h, by rw [sm hk2], rfl⟩⟩
    · have hlt : ati ds i < 7 := by omega
      have hk2 : nameI ns (ati ds i) = ati ns (ati ds i) := by simp [nameI, hk.1]
      rw [hk2] at st
      simp [c_impl_Relabel_L1, h, hlen, hk, h7', hlt, st]
      exact ⟨by omega, _, by omega, hJ _ _ _ ⟨i + 1, rfl, h, rfl, rfl⟩⟩
  · have : i = ds.length := by omega
    subst this
    simp [c_impl_Relabel_L1, half_all]
    exact List.take_of_length_le (by simp)

end Go.Proofs.Dev
