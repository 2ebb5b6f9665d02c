/- Contracts of the functions of the program over slots and rows, each proved against the program itself; no condition beyond those that each theorem names. -/
import Derived.Test.YtiolbpmhnlmmdaaDoorAI
import Derived.Lib.Split
import Derived.Lib.SplitLaws
import Derived.Lib.AtoiAll
import Derived.Test.YtiolbpmhnlmmdaaDoorAH

set_option linter.unusedSimpArgs false
set_option linter.unusedVariables false

namespace Go.Proofs.Dev
open Go.Lib

theorem cut_miss : ∀ {s : List UInt8} {c : UInt8}, indexByte s c = -1 → cutL c s = [s]
  | [], c, _ => rfl
  | b :: l, c, h => by
    unfold indexByte at h
    by_cases hb : b = c
    · simp [hb] at h
    · rw [if_neg (by simpa using hb)] at h
      have hl : indexByte l c = -1 := by
        by_cases h1 : (indexByte l c == -1) = true
        · simpa using h1
        · rw [if_neg h1] at h
          have := indexByte_ge l c
          omega
      rw [cutL, if_neg hb, cut_miss hl]

theorem cutL_cons (c : UInt8) : ∀ s : List UInt8, ∃ p ps, cutL c s = p :: ps
  | [] => ⟨_, _, rfl⟩
  | x :: s => by
    rw [cutL]
    split
    · exact ⟨_, _, rfl⟩
    · obtain ⟨p, ps, h⟩ := cutL_cons c s
      rw [h]
      exact ⟨_, _, rfl⟩

theorem cut_hit : ∀ {s : List UInt8} {c : UInt8} {i : Nat}, indexByte s c = i → cutL c s = s.take i :: cutL c (s.drop (i + 1))
  | [], c, i, h => by simp [indexByte] at h
  | b :: l, c, i, h => by
    unfold indexByte at h
    by_cases hb : b = c
    · rw [if_pos (by simpa using hb)] at h
      have : i = 0 := by omega
      subst this
      rw [cutL, if_pos hb]
      simp
    · rw [if_neg (by simpa using hb)] at h
      by_cases h1 : (indexByte l c == -1) = true
      · rw [if_pos h1] at h; omega
      · rw [if_neg h1] at h
        have := indexByte_ge l c
        have h2 : indexByte l c ≠ -1 := by simpa using h1
        obtain ⟨j, hj⟩ : ∃ j : Nat, indexByte l c = j := ⟨(indexByte l c).toNat, by omega⟩
        have hi : i = j + 1 := by omega
        subst hi
        rw [cutL, if_neg hb, cut_hit hj]
        simp

theorem split_cut (c : UInt8) : ∀ (n : Nat) (s : List UInt8), s.length ≤ n → splitK [c] 0 (count s [c]) s = cutL c s
  | n, s, hn => by
    by_cases h : index s [c] = -1
    · rw [count_miss h, splitK, cut_miss (by rw [← index_one]; exact h)]
    · have h1 := indexByte_ge s c
      rw [index_one] at h
      obtain ⟨i, hi⟩ : ∃ i : Nat, indexByte s c = i := ⟨(indexByte s c).toNat, by omega⟩
      have hi' : index s [c] = i := by rw [index_one]; exact hi
      have hlt : i < s.length := by
        have := (indexByte_some hi).1
        exact (List.getElem?_eq_some_iff.1 this).1
      rw [count_hit (by simp) hi', Nat.add_comm, splitK, if_neg (by rw [hi']; simp), hi', cut_hit hi]
      have e : ((i : Nat) : Int).toNat = i := by omega
      rw [e, Nat.add_zero]
      match n, hn with
      | 0, hn => omega
      | n + 1, hn =>
        have := split_cut c n (s.drop (i + [c].length)) (by simp; omega)
        rw [this]
        rfl

theorem splitB_cut (c : UInt8) (s : List UInt8) : (splitB ⟨[c].toArray⟩ 0 (countB ⟨s.toArray⟩ ⟨[c].toArray⟩) ⟨s.toArray⟩).map Value.string = (cutL c s).map tx := by
  have h := splitB_data ⟨[c].toArray⟩ 0 (countB ⟨s.toArray⟩ ⟨[c].toArray⟩) ⟨s.toArray⟩
  have h2 : splitK [c] 0 (count s [c]) s = cutL c s := split_cut c s.length s (Nat.le_refl _)
  have h3 : (splitB ⟨[c].toArray⟩ 0 (countB ⟨s.toArray⟩ ⟨[c].toArray⟩) ⟨s.toArray⟩).map (·.data.toList) = cutL c s := h.trans h2
  rw [← h3, List.map_map]
  apply List.map_congr_left
  intro b _
  show Value.string b = Value.string ⟨b.data.toList.toArray⟩
  rw [mk_data]

theorem cutL_each (c : UInt8) : ∀ (s : List UInt8) (p : List UInt8), p ∈ cutL c s → p.length ≤ s.length
  | [], p, h => by simp [cutL] at h; simp [h]
  | x :: s, p, h => by
    rw [cutL] at h
    split at h
    · rcases List.mem_cons.1 h with rfl | h
      · simp
      · have := cutL_each c s p h; simp; omega
    · obtain ⟨q, qs, e⟩ := cutL_cons c s
      rw [e] at h
      rcases List.mem_cons.1 h with rfl | h
      · have := cutL_each c s q (by rw [e]; simp); simp; omega
      · have := cutL_each c s p (by rw [e]; simp [h]); simp; omega
end Go.Proofs.Dev

namespace Go.Proofs.Dev

def joinL (c : UInt8) : List (List UInt8) → List UInt8
  | [] => []
  | [p] => p
  | p :: q :: ps => p ++ c :: joinL c (q :: ps)
theorem joinL_cons (c : UInt8) (p : List UInt8) {ps : List (List UInt8)} (h : ps ≠ []) : joinL c (p :: ps) = p ++ c :: joinL c ps := by
  cases ps with
  | nil => exact absurd rfl h
  | cons q ps => rfl

theorem cutL_none {c : UInt8} : ∀ {s : List UInt8}, c ∉ s → cutL c s = [s]
  | [], _ => rfl
  | x :: s, h => by
    rw [cutL, if_neg (fun e => h (by simp [e])), cutL_none (fun e => h (by simp [e]))]
theorem cutL_app {c : UInt8} : ∀ {p : List UInt8} {s : List UInt8}, c ∉ p → cutL c (p ++ c :: s) = p :: cutL c s
  | [], s, _ => by show cutL c (c :: s) = _; rw [cutL, if_pos rfl]
  | x :: p, s, h => by
    show cutL c (x :: (p ++ c :: s)) = _
    rw [cutL, if_neg (fun e => h (by simp [e])), cutL_app (p := p) (fun e => h (by simp [e]))]
theorem cut_join {c : UInt8} : ∀ {ps : List (List UInt8)}, ps ≠ [] → (∀ p ∈ ps, c ∉ p) → cutL c (joinL c ps) = ps
  | [], h, _ => absurd rfl h
  | [p], _, h => cutL_none (h p (by simp))
  | p :: q :: ps, _, h => by
    rw [joinL_cons c p (by simp), cutL_app (h p (by simp)), cut_join (by simp) (fun x hx => h x (by simp at hx ⊢; exact .inr hx))]
theorem join_cut (c : UInt8) : ∀ s : List UInt8, joinL c (cutL c s) = s
  | [] => rfl
  | x :: s => by
    have ih := join_cut c s
    obtain ⟨p, ps, h⟩ := cutL_cons c s
    rw [cutL]
    split
    · rename_i hx
      rw [joinL_cons c [] (by rw [h]; simp), ih, hx]
      rfl
    · rw [h] at ih ⊢
      show joinL c ((x :: p) :: ps) = _
      cases ps with
      | nil => show x :: p = _; rw [← ih]; rfl
      | cons q ps => rw [joinL_cons c _ (by simp)]; rw [joinL_cons c _ (by simp)] at ih; rw [← ih]; rfl
/-- The sign of a cell, its row, the rows from the north, the text. -/
def sgC (cs : List Bool) (ds : List Int) (k : Nat) : UInt8 := if atb cs k then b8 (48 + ati ds k) else 46
def rowC (W : Nat) (cs : List Bool) (ds : List Int) (y : Nat) : List UInt8 := (List.range W).map fun x => sgC cs ds (y * W + x)
def rowsC (W : Nat) (cs : List Bool) (ds : List Int) : Nat → List (List UInt8)
  | 0 => []
  | y + 1 => rowC W cs ds y :: rowsC W cs ds y
def ptext (W T : Int) (cs : List Bool) (ds : List Int) : List UInt8 := if (regB W T cs && digsB cs ds) = true then joinL 47 (rowsC W.toNat cs ds T.toNat) else []

@[simp] theorem rowC_length (W : Nat) (cs : List Bool) (ds : List Int) (y : Nat) : (rowC W cs ds y).length = W := by simp [rowC]
@[simp] theorem rowsC_length (W : Nat) (cs : List Bool) (ds : List Int) : ∀ n, (rowsC W cs ds n).length = n
  | 0 => rfl
  | n + 1 => by simp [rowsC, rowsC_length W cs ds n]
theorem rowsC_mem {W : Nat} {cs : List Bool} {ds : List Int} : ∀ {n : Nat} {p : List UInt8}, p ∈ rowsC W cs ds n → ∃ y, y < n ∧ p = rowC W cs ds y
  | 0, p, h => by simp [rowsC] at h
  | n + 1, p, h => by
    rcases List.mem_cons.1 h with rfl | h
    · exact ⟨n, by omega, rfl⟩
    · obtain ⟨y, hy, rfl⟩ := rowsC_mem h
      exact ⟨y, by omega, rfl⟩

/-- What a sign of a puzzle may be. -/
def okC (c : UInt8) : Bool := decide (c.toNat = 46 ∨ 48 ≤ c.toNat ∧ c.toNat ≤ 54)
def dgC (c : UInt8) : Int := if c.toNat = 46 then -1 else (c.toNat : Int) - 48

theorem b8_toNat {n : Int} (_h0 : 0 ≤ n) (h1 : n < 256) : (b8 n).toNat = n.toNat := by
  show (UInt8.ofNat n.toNat).toNat = _
  simp
  omega

theorem sgC_ok {cs : List Bool} {ds : List Int} (h : digsB cs ds = true) {k : Nat} (hk : k < cs.length) : okC (sgC cs ds k) = true := by
  simp only [digsB, Bool.and_eq_true, decide_eq_true_eq, allB_iff] at h
  have := h.2 k (by omega)
  unfold sgC okC
  unfold digAt at this
  split
  · rename_i hc
    rw [if_pos hc] at this
    simp at this
    rw [b8_toNat (by omega) (by omega)]
    simp
    omega
  · rfl

theorem cell_lt {W T y x : Nat} (hy : y < T) (hx : x < W) : y * W + x < T * W := by
  have : (y + 1) * W ≤ T * W := Nat.mul_le_mul_right _ hy
  rw [Nat.succ_mul] at this
  omega

theorem rowsC_ok {W T : Nat} {cs : List Bool} {ds : List Int} (h : digsB cs ds = true) (hl : cs.length = T * W) {p : List UInt8} (hp : p ∈ rowsC W cs ds T) : p.length = W ∧ ∀ c ∈ p, okC c = true := by
  obtain ⟨y, hy, rfl⟩ := rowsC_mem hp
  refine ⟨by simp, fun c hc => ?_⟩
  obtain ⟨x, hx, rfl⟩ := List.mem_map.1 hc
  exact sgC_ok h (by rw [hl]; exact cell_lt hy (List.mem_range.1 hx))
theorem okC_47 {p : List UInt8} (h : ∀ c ∈ p, okC c = true) : (47 : UInt8) ∉ p := fun hm => by
  have := h 47 hm
  revert this
  decide

/-- The rows of a text, from the south, one after the other. -/
def flT (s : List UInt8) : List UInt8 := (cutL 47 s).reverse.flatten
def csT (s : List UInt8) : List Bool := (flT s).map fun c => !decide (c.toNat = 46)
def dsT (s : List UInt8) : List Int := (flT s).map fun c => digT [c]
def dsI (s : List UInt8) : List Int := (flT s).map dgC
def wT (s : List UInt8) : Nat := (nth (cutL 47 s) 0).length
def tT (s : List UInt8) : Nat := (cutL 47 s).length
/-- Whether a text is read: by the reference, and by the program. -/
def rpB (s : List UInt8) : Bool := decide (s ≠ []) && decide (ptext (wT s) (tT s) (csT s) (dsT s) = s)
def rowsB (s : List UInt8) : Bool := (cutL 47 s).all fun p => decide (p.length = wT s) && p.all okC
def riB (s : List UInt8) : Bool := decide (1 ≤ wT s ∧ wT s ≤ 6 ∧ 1 ≤ tT s ∧ tT s ≤ 6) && rowsB s && regB (wT s) (tT s) (csT s)

theorem flat_len {W : Nat} : ∀ {qs : List (List UInt8)}, (∀ p ∈ qs, p.length = W) → qs.flatten.length = qs.length * W
  | [], _ => by simp
  | q :: qs, h => by
    have ih := flat_len (qs := qs) fun p hp => h p (by simp [hp])
    have h0 := h q (by simp)
    simp only [List.flatten_cons, List.length_append, ih, h0, List.length_cons, Nat.succ_mul]
    omega
theorem flat_at {W : Nat} : ∀ {qs : List (List UInt8)} {y x : Nat}, (∀ p ∈ qs, p.length = W) → (hy : y < qs.length) → x < W → qs.flatten[y * W + x]? = (qs[y]'hy)[x]?
  | [], y, x, _, hy, _ => by simp at hy
  | q :: qs, 0, x, h, hy, hx => by
    have hq := h q (by simp)
    simp only [List.flatten_cons, Nat.zero_mul, Nat.zero_add, List.getElem_cons_zero]
    rw [List.getElem?_append_left (by omega)]
  | q :: qs, y + 1, x, h, hy, hx => by
    have h0 := h q (by simp)
    simp only [List.flatten_cons, List.getElem_cons_succ, Nat.succ_mul]
    rw [List.getElem?_append_right (by omega), show y * W + W + x - q.length = y * W + x by omega]
    exact flat_at (fun p hp => h p (by simp [hp])) (by simpa using hy) hx

theorem sgC_flat {fl : List UInt8} {k : Nat} {c : UInt8} (h : fl[k]? = some c) (ho : okC c = true) : sgC (fl.map fun c => !decide (c.toNat = 46)) (fl.map dgC) k = c := by
  obtain ⟨hk, hc⟩ := List.getElem?_eq_some_iff.1 h
  unfold sgC atb ati
  simp only [List.getD_eq_getElem?_getD, Int.toNat_natCast, List.getElem?_map, h, Option.map_some, Option.getD_some]
  unfold okC at ho
  simp at ho
  by_cases h4 : c.toNat = 46
  · simp only [h4, decide_true, Bool.not_true]
    apply UInt8.toNat_inj.1
    rw [if_neg (by simp)]
    exact h4.symm
  · simp only [h4, decide_false, Bool.not_false, if_true]
    apply UInt8.toNat_inj.1
    rw [dgC, if_neg h4, b8_toNat (by omega) (by omega)]
    omega

theorem rowC_flat {W y : Nat} {qs : List (List UInt8)} (h : ∀ p ∈ qs, p.length = W) (ho : ∀ p ∈ qs, ∀ c ∈ p, okC c = true) (hy : y < qs.length) :
    rowC W (qs.flatten.map fun c => !decide (c.toNat = 46)) (qs.flatten.map dgC) y = qs[y] := by
  have hl := h qs[y] (List.getElem_mem hy)
  apply List.ext_getElem (by simp [hl])
  intro x h1 h2
  have hx : x < W := by omega
  have hm := flat_at h hy hx
  rw [List.getElem?_eq_getElem h2] at hm
  simp only [rowC, List.getElem_map, List.getElem_range]
  exact sgC_flat hm (ho _ (List.getElem_mem hy) _ (List.getElem_mem h2))

theorem rowsC_flat {W : Nat} {qs : List (List UInt8)} (h : ∀ p ∈ qs, p.length = W) (ho : ∀ p ∈ qs, ∀ c ∈ p, okC c = true) : ∀ {n : Nat}, n ≤ qs.length →
    rowsC W (qs.flatten.map fun c => !decide (c.toNat = 46)) (qs.flatten.map dgC) n = (qs.take n).reverse
  | 0, _ => by simp [rowsC]
  | n + 1, hn => by
    rw [rowsC, rowC_flat h ho (by omega), rowsC_flat h ho (by omega), List.take_succ_eq_append_getElem (by omega), List.reverse_append]
    rfl

theorem digT_one (c : UInt8) : digT [c] = if 48 ≤ c.toNat ∧ c.toNat ≤ 57 then (c.toNat : Int) - 48 else -1 := by
  unfold digT
  rw [if_neg (by simp)]
  simp only [digsT]
  split <;> simp

theorem dsT_ok {s : List UInt8} (h : rowsB s = true) : dsT s = dsI s := by
  unfold dsT dsI
  apply List.map_congr_left
  intro c hc
  have : okC c = true := by
    obtain ⟨p, hp, hcp⟩ := List.mem_flatten.1 hc
    have := List.all_eq_true.1 h p (List.mem_reverse.1 hp)
    simp only [Bool.and_eq_true] at this
    exact List.all_eq_true.1 this.2 c hcp
  unfold okC at this
  simp at this
  rw [digT_one, dgC]
  split <;> split <;> omega

theorem rp_ri (s : List UInt8) : rpB s = riB s := by
  rw [Bool.eq_iff_iff]
  constructor
  · intro h
    simp only [rpB, Bool.and_eq_true, decide_eq_true_eq] at h
    obtain ⟨h0, h1⟩ := h
    by_cases hv : (regB (wT s) (tT s) (csT s) && digsB (csT s) (dsT s)) = true
    · rw [ptext, if_pos hv] at h1
      simp only [Bool.and_eq_true] at hv
      obtain ⟨hr, hd⟩ := hv
      have hr' := hr
      simp only [regB, decide_eq_true_eq] at hr'
      obtain ⟨w1, w2, t1, t2, hl, _⟩ := hr'
      have hl' : (csT s).length = tT s * wT s := by
        have : ((csT s).length : Int) = ((tT s * wT s : Nat) : Int) := by rw [hl, Int.natCast_mul, Int.mul_comm]
        exact Int.ofNat.inj this
      simp only [Int.toNat_natCast] at h1
      have ok := fun p hp => rowsC_ok (p := p) hd hl' hp
      have hc : cutL 47 s = rowsC (wT s) (csT s) (dsT s) (tT s) := by
        conv => lhs; rw [← h1]
        exact cut_join (fun e => by have := congrArg List.length e; simp at this; omega) (fun p hp => okC_47 (ok p hp).2)
      simp only [riB, Bool.and_eq_true, decide_eq_true_eq]
      refine ⟨⟨⟨by omega, by omega, by omega, by omega⟩, ?_⟩, hr⟩
      unfold rowsB
      rw [List.all_eq_true]
      intro p hp
      rw [hc] at hp
      have := ok p hp
      simp only [this.1, decide_true, Bool.true_and, List.all_eq_true]
      exact this.2
    · rw [ptext, if_neg hv] at h1
      exact absurd h1.symm h0
  · intro h
    simp only [riB, Bool.and_eq_true, decide_eq_true_eq] at h
    obtain ⟨⟨⟨w1, w2, t1, t2⟩, hrow⟩, hr⟩ := h
    have ed := dsT_ok hrow
    have hall := List.all_eq_true.1 hrow
    have hW : ∀ p ∈ (cutL 47 s).reverse, p.length = wT s := fun p hp => by
      have := hall p (List.mem_reverse.1 hp)
      simp only [Bool.and_eq_true, decide_eq_true_eq] at this
      exact this.1
    have hO : ∀ p ∈ (cutL 47 s).reverse, ∀ c ∈ p, okC c = true := fun p hp => by
      have := hall p (List.mem_reverse.1 hp)
      simp only [Bool.and_eq_true, decide_eq_true_eq] at this
      exact List.all_eq_true.1 this.2
    have hd : digsB (csT s) (dsI s) = true := by
      simp only [digsB, Bool.and_eq_true, decide_eq_true_eq, allB_iff]
      refine ⟨by simp [csT, dsI], fun k hk => ?_⟩
      simp only [dsI, List.length_map] at hk
      have hm : okC (flT s)[k] = true := by
        obtain ⟨p, hp, hcp⟩ := List.mem_flatten.1 (List.getElem_mem hk)
        exact hO p hp _ hcp
      unfold digAt atb ati csT dsI
      simp only [List.getD_eq_getElem?_getD, Int.toNat_natCast, List.getElem?_map, List.getElem?_eq_getElem hk, Option.map_some, Option.getD_some]
      unfold okC at hm
      simp at hm
      by_cases h4 : (flT s)[k].toNat = 46
      · simp [h4, dgC]
      · simp only [h4, decide_false, Bool.not_false, if_true, dgC, if_false]
        simp
        omega
    have key : ptext (wT s) (tT s) (csT s) (dsI s) = s := by
      rw [ptext, if_pos (by rw [hr, hd]; rfl)]
      simp only [Int.toNat_natCast]
      have := rowsC_flat hW hO (n := tT s) (by simp [tT])
      unfold csT dsI flT
      rw [this, List.take_of_length_le (by simp [tT]), List.reverse_reverse]
      exact join_cut 47 s
    simp only [rpB, Bool.and_eq_true, decide_eq_true_eq]
    refine ⟨fun e => ?_, by rw [ed]; exact key⟩
    subst e
    simp [wT, cutL, nth] at w1

end Go.Proofs.Dev

namespace Go.Proofs.Dev

theorem rows_flat (W : Nat) (cs : List Bool) (ds : List Int) : ∀ n, (rowsC W cs ds n).reverse.flatten = (List.range (n * W)).map (sgC cs ds)
  | 0 => by simp [rowsC]
  | n + 1 => by
    rw [rowsC, List.reverse_cons, List.flatten_append, rows_flat W cs ds n, Nat.succ_mul, List.range_add]
    simp [rowC, List.map_map, Function.comp_def]

theorem sg_cell {cs : List Bool} {ds : List Int} (h : digsB cs ds = true) {k : Nat} (hk : k < cs.length) : (!decide ((sgC cs ds k).toNat = 46)) = atb cs k ∧ dgC (sgC cs ds k) = ati ds k := by
  simp only [digsB, Bool.and_eq_true, decide_eq_true_eq, allB_iff] at h
  have := h.2 k (by omega)
  unfold digAt at this
  unfold sgC dgC
  cases hc : atb cs k with
  | true =>
    rw [hc] at this
    simp at this
    rw [if_pos rfl, b8_toNat (by omega) (by omega)]
    have e : ¬ (48 + ati ds k).toNat = 46 := by omega
    rw [if_neg e]
    simp [e]
    omega
  | false =>
    rw [hc] at this
    simp at this
    rw [this]
    exact ⟨rfl, rfl⟩

theorem ptext_read {W T : Nat} {cs : List Bool} {ds : List Int} (h : (regB W T cs && digsB cs ds) = true) :
    ptext W T cs ds ≠ [] ∧ riB (ptext W T cs ds) = true ∧ wT (ptext W T cs ds) = W ∧ tT (ptext W T cs ds) = T ∧ csT (ptext W T cs ds) = cs ∧ dsI (ptext W T cs ds) = ds := by
  have hp : ptext W T cs ds = joinL 47 (rowsC W cs ds T) := if_pos h
  simp only [Bool.and_eq_true] at h
  obtain ⟨hr, hd⟩ := h
  have hr' := hr
  simp only [regB, decide_eq_true_eq] at hr'
  obtain ⟨w1, w2, t1, t2, hl, _⟩ := hr'
  have hl' : cs.length = T * W := by
    have : (cs.length : Int) = ((T * W : Nat) : Int) := by rw [hl, Int.natCast_mul, Int.mul_comm]
    exact Int.ofNat.inj this
  have hdl : ds.length = cs.length := by
    simp only [digsB, Bool.and_eq_true, decide_eq_true_eq] at hd
    exact hd.1
  have ok := fun p hp => rowsC_ok (p := p) hd hl' hp
  have hc : cutL 47 (ptext W T cs ds) = rowsC W cs ds T := by
    rw [hp]
    exact cut_join (fun e => by have := congrArg List.length e; simp at this; omega) (fun p hp => okC_47 (ok p hp).2)
  have hfl : flT (ptext W T cs ds) = (List.range (T * W)).map (sgC cs ds) := by rw [flT, hc, rows_flat]
  have hw : wT (ptext W T cs ds) = W := by
    rw [wT, hc]
    obtain ⟨n, rfl⟩ : ∃ n, T = n + 1 := ⟨T - 1, by omega⟩
    show (rowC W cs ds n).length = W
    simp
  have ht : tT (ptext W T cs ds) = T := by rw [tT, hc, rowsC_length]
  have hcs : csT (ptext W T cs ds) = cs := by
    rw [csT, hfl, List.map_map]
    apply List.ext_getElem (by simp [hl'])
    intro k h1 h2
    simp only [List.getElem_map, List.getElem_range, Function.comp_apply]
    rw [(sg_cell hd h2).1]
    simp [atb, h2]
  have hds : dsI (ptext W T cs ds) = ds := by
    rw [dsI, hfl, List.map_map]
    apply List.ext_getElem (by simp [hl', hdl])
    intro k h1 h2
    simp only [List.getElem_map, List.getElem_range, Function.comp_apply]
    rw [(sg_cell hd (by omega)).2]
    simp [ati, h2]
  refine ⟨fun e => ?_, ?_, hw, ht, hcs, hds⟩
  · rw [e] at hw
    simp [wT, cutL, nth] at hw
    omega
  · simp only [riB, hw, ht, hcs, hr, Bool.and_eq_true, decide_eq_true_eq]
    refine ⟨⟨⟨by omega, by omega, by omega, by omega⟩, ?_⟩, trivial⟩
    unfold rowsB
    rw [hc, hw, List.all_eq_true]
    intro p hp
    have := ok p hp
    simp only [this.1, decide_true, Bool.true_and, List.all_eq_true]
    exact this.2

theorem read_ptext {s : List UInt8} (h : riB s = true) : ptext (wT s) (tT s) (csT s) (dsI s) = s := by
  have h2 := rp_ri s
  rw [h] at h2
  simp only [rpB, Bool.and_eq_true, decide_eq_true_eq] at h2
  rw [← dsT_ok (by simp only [riB, Bool.and_eq_true] at h; exact h.1.2)]
  exact h2.2

theorem cut_snoc (c : UInt8) : ∀ s : List UInt8, [] ∈ cutL c (s ++ [c]) ∧ ∃ p q ps, cutL c (s ++ [c]) = p :: q :: ps ∧ [] ∈ q :: ps
  | [] => by
    show [] ∈ cutL c [c] ∧ ∃ p q ps, cutL c [c] = p :: q :: ps ∧ [] ∈ q :: ps
    rw [cutL, if_pos rfl]
    exact ⟨by simp, _, _, _, rfl, by simp⟩
  | x :: s => by
    obtain ⟨h1, p, q, ps, h2, h3⟩ := cut_snoc c s
    show [] ∈ cutL c (x :: (s ++ [c])) ∧ ∃ p q ps, cutL c (x :: (s ++ [c])) = p :: q :: ps ∧ [] ∈ q :: ps
    rw [cutL]
    split
    · refine ⟨by simp, _, p, q :: ps, by rw [h2], by rw [← h2]; exact h1⟩
    · rw [h2]
      exact ⟨List.mem_cons_of_mem _ h3, _, _, _, rfl, h3⟩

theorem read_more (s : List UInt8) : riB (s ++ [47]) = false := by
  cases h : riB (s ++ [47]) with
  | false => rfl
  | true =>
    simp only [riB, Bool.and_eq_true, decide_eq_true_eq] at h
    have := List.all_eq_true.1 h.1.2 [] (cut_snoc 47 s).1
    simp at this
    omega

end Go.Proofs.Dev
