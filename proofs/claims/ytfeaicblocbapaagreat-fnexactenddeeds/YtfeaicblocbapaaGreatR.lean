/- Contracts of the functions of the program over slots and rows, each proved against the program itself; no condition beyond those that each theorem names. -/
import Derived.Test.YtfeaicblocbapaaGreatP

set_option linter.unusedSimpArgs false
set_option linter.unusedVariables false

namespace Go.Proofs.Dev
set_option linter.unusedSimpArgs false
set_option maxRecDepth 100000

def namesB (ns : List Int) : Bool := decide (ns.length = 7) && (onceB ns && allB ns.length (fun k => decide (0 ≤ ati ns k ∧ ati ns k ≤ 6)))
def nameI (ns : List Int) (d : Int) : Int := if 0 ≤ d then ati ns d else d
def relI (W T : Int) (cs : List Bool) (ds ns : List Int) : List Int := if (regB W T cs && digsB cs ds && namesB ns) = true then ds.map (nameI ns) else []

theorem ati_mem {xs : List Int} {i : Nat} (h : i < xs.length) : ati xs i ∈ xs := by simp [ati, h]
theorem mem_ati {xs : List Int} {x : Int} (h : x ∈ xs) : ∃ i : Nat, i < xs.length ∧ ati xs i = x := by
  obtain ⟨i, hi, rfl⟩ := List.getElem_of_mem h
  exact ⟨i, hi, by simp [ati, hi]⟩

/-- Seven numbers are 0 to 6, each once, exactly if sorted they are so. -/
theorem names_sorted {ns : List Int} (h7 : ns.length = 7) : (∀ i : Nat, i < 7 → ati (srt ns) i = i) ↔ (ns.Nodup ∧ ∀ k : Nat, k < ns.length → 0 ≤ ati ns k ∧ ati ns k ≤ 6) := by
  have hl : (srt ns).length = 7 := by rw [srt_length, h7]
  constructor
  · intro h
    constructor
    · refine (srt_perm ns).nodup_iff.1 (List.pairwise_iff_getElem.2 fun i j hi hj hij => ?_)
      have e1 := h i (by omega)
      have e2 := h j (by omega)
      simp [ati, hi] at e1
      simp [ati, hj] at e2
      omega
    · intro k hk
      have hm : ati ns k ∈ srt ns := (srt_perm ns).mem_iff.2 (ati_mem hk)
      obtain ⟨i, hi, e⟩ := mem_ati hm
      have := h i (by omega)
      omega
  · rintro ⟨hn, hr⟩
    have hn' := (srt_perm ns).nodup_iff.2 hn
    have lt : ∀ i j : Nat, i < j → j < 7 → ati (srt ns) i < ati (srt ns) j := by
      intro i j hij hj
      have h1 := List.pairwise_iff_getElem.1 (srt_sorted ns) i j (by omega) (by omega) hij
      have h2 := List.pairwise_iff_getElem.1 hn' i j (by omega) (by omega) hij
      have hi' : i < (srt ns).length := by omega
      have hj' : j < (srt ns).length := by omega
      simp [ati, hi', hj']
      omega
    have rg : ∀ i : Nat, i < 7 → 0 ≤ ati (srt ns) i ∧ ati (srt ns) i ≤ 6 := by
      intro i hi
      have hm : ati (srt ns) i ∈ ns := (srt_perm ns).mem_iff.1 (ati_mem (by omega))
      obtain ⟨k, hk, e⟩ := mem_ati hm
      have := hr k hk
      omega
    have l01 := lt 0 1 (by omega) (by omega)
    have l12 := lt 1 2 (by omega) (by omega)
    have l23 := lt 2 3 (by omega) (by omega)
    have l34 := lt 3 4 (by omega) (by omega)
    have l45 := lt 4 5 (by omega) (by omega)
    have l56 := lt 5 6 (by omega) (by omega)
    have r0 := (rg 0 (by omega)).1
    have r6 := (rg 6 (by omega)).2
    intro i hi
    match i, hi with
    | 0, _ => omega
    | 1, _ => omega
    | 2, _ => omega
    | 3, _ => omega
    | 4, _ => omega
    | 5, _ => omega
    | 6, _ => omega

theorem digs_get {cs : List Bool} {ds : List Int} (h : digsB cs ds = true) {k : Nat} (hk : k < ds.length) : ati ds k = -1 ∨ (0 ≤ ati ds k ∧ ati ds k ≤ 6) := by
  simp only [digsB, Bool.and_eq_true, decide_eq_true_eq, allB_iff] at h
  have := h.2 k hk
  simp only [digAt] at this
  split at this <;> simp at this
  · right; exact this
  · left; exact this

/-- A list of which the first i elements are changed. -/
def half (f : Int → Int) (ds : List Int) (i : Nat) : List Int := (ds.take i).map f ++ ds.drop i
theorem half_zero (f : Int → Int) (ds : List Int) : half f ds 0 = ds := by simp [half]
theorem half_all (f : Int → Int) (ds : List Int) : half f ds ds.length = ds.map f := by simp [half]
theorem half_length (f : Int → Int) (ds : List Int) (i : Nat) : (half f ds i).length = ds.length := by simp [half]; omega
theorem half_get (f : Int → Int) {ds : List Int} {i : Nat} (h : i < ds.length) : (ints (half f ds i))[i]? = some (.v (.int .i64 (ati ds i))) := by
  have e : (half f ds i)[i]? = some ds[i] := by
    unfold half
    rw [List.getElem?_append_right (by simp; omega)]
    simp [Nat.min_eq_left (Nat.le_of_lt h), h]
  simp only [ints, List.getElem?_map, e, Option.map_some]
  simp [ati, h]
theorem ints_getE (xs : List Int) (i : Nat) (h : i < (ints xs).length) : (ints xs)[i] = .v (.int .i64 (xs[i]'(by simpa using h))) := by simp [ints]
theorem half_getE (f : Int → Int) {ds : List Int} {i : Nat} (h : i < (half f ds i).length) : (half f ds i)[i] = ati ds i := by
  have h2 : i < ds.length := by rw [half_length] at h; exact h
  have e : (half f ds i)[i]? = some (ati ds i) := by
    unfold half
    rw [List.getElem?_append_right (by simp; omega)]
    simp [ati, Nat.min_eq_left (Nat.le_of_lt h2), h2]
  rw [List.getElem?_eq_getElem h] at e
  exact Option.some.inj e
theorem half_set (f : Int → Int) {ds : List Int} {i : Nat} (h : i < ds.length) : (ints (half f ds i)).set i (.v (.int .i64 (f (ati ds i)))) = ints (half f ds (i + 1)) := by
  unfold half
  rw [ints_set, set_mid _ _ _ _ (by simp; omega) h, List.take_succ_eq_append_getElem h, List.map_append]
  simp [ati, h]
theorem half_same (f : Int → Int) {ds : List Int} {i : Nat} (h : i < ds.length) (e : f (ati ds i) = ati ds i) : half f ds i = half f ds (i + 1) := by
  unfold half
  rw [List.take_succ_eq_append_getElem h, List.map_append, List.drop_eq_getElem_cons h]
  have : f ds[i] = ds[i] := by simpa [ati, h] using e
  simp [this]

theorem relI_length (W T : Int) (cs : List Bool) (ds ns : List Int) : (relI W T cs ds ns).length ≤ ds.length := by
  unfold relI; split <;> simp

end Go.Proofs.Dev
