/- Contracts of the functions of the program over slots and rows, each proved against the program itself; no condition beyond those that each theorem names. -/
import Derived.Test.YtiolbpmhnlmmdaaDoorAH
import Derived.Lib.SlicesCompact
import Derived.Sort.Row
import Derived.Sort.Grow

set_option linter.unusedSimpArgs false
set_option linter.unusedVariables false

namespace Go.Proofs.Dev

def joinL (c : UInt8) : List (List UInt8) → List UInt8
  | [] => []
  | [p] => p
  | p :: q :: ps => p ++ c :: joinL c (q :: ps)
theorem joinL_cons (c : UInt8) (p : List UInt8) {ps : List (List UInt8)} (h : ps ≠ []) : joinL c (p :: ps) = p ++ c :: joinL c ps := by
  cases ps with
  | nil => exact absurd rfl h
  | cons q ps => rfl

theorem cutL_none {c : UInt8} : ∀ {s : List UInt8}, c ∉ s → cutL c s = [s]
  | [], _ => rfl
  | x :: s, h => by
    rw [cutL, if_neg (fun e => h (by simp [e])), cutL_none (fun e => h (by simp [e]))]
theorem cutL_app {c : UInt8} : ∀ {p : List UInt8} {s : List UInt8}, c ∉ p → cutL c (p ++ c :: s) = p :: cutL c s
  | [], s, _ => by show cutL c (c :: s) = _; rw [cutL, if_pos rfl]
  | x :: p, s, h => by
    show cutL c (x :: (p ++ c :: s)) = _
    rw [cutL, if_neg (fun e => h (by simp [e])), cutL_app (p := p) (fun e => h (by simp [e]))]
theorem cut_join {c : UInt8} : ∀ {ps : List (List UInt8)}, ps ≠ [] → (∀ p ∈ ps, c ∉ p) → cutL c (joinL c ps) = ps
  | [], h, _ => absurd rfl h
  | [p], _, h => cutL_none (h p (by simp))
  | p :: q :: ps, _, h => by
    rw [joinL_cons c p (by simp), cutL_app (h p (by simp)), cut_join (by simp) (fun x hx => h x (by simp at hx ⊢; exact .inr hx))]
theorem join_cut (c : UInt8) : ∀ s : List UInt8, joinL c (cutL c s) = s
  | [] => rfl
  | x :: s => by
    have ih := join_cut c s
    obtain ⟨p, ps, h⟩ := cutL_cons c s
    rw [cutL]
    split
    · rename_i hx
      rw [joinL_cons c [] (by rw [h]; simp), ih, hx]
      rfl
    · rw [h] at ih ⊢
      show joinL c ((x :: p) :: ps) = _
      cases ps with
      | nil => show x :: p = _; rw [← ih]; rfl
      | cons q ps => rw [joinL_cons c _ (by simp)]; rw [joinL_cons c _ (by simp)] at ih; rw [← ih]; rfl
/-- The sign of a cell, its row, the rows from the north, the text. -/
def sgC (cs : List Bool) (ds : List Int) (k : Nat) : UInt8 := if atb cs k then b8 (48 + ati ds k) else 46
def rowC (W : Nat) (cs : List Bool) (ds : List Int) (y : Nat) : List UInt8 := (List.range W).map fun x => sgC cs ds (y * W + x)
def rowsC (W : Nat) (cs : List Bool) (ds : List Int) : Nat → List (List UInt8)
  | 0 => []
  | y + 1 => rowC W cs ds y :: rowsC W cs ds y
def ptext (W T : Int) (cs : List Bool) (ds : List Int) : List UInt8 := if (regB W T cs && digsB cs ds) = true then joinL 47 (rowsC W.toNat cs ds T.toNat) else []

@[simp] theorem rowC_length (W : Nat) (cs : List Bool) (ds : List Int) (y : Nat) : (rowC W cs ds y).length = W := by simp [rowC]
@[simp] theorem rowsC_length (W : Nat) (cs : List Bool) (ds : List Int) : ∀ n, (rowsC W cs ds n).length = n
  | 0 => rfl
  | n + 1 => by simp [rowsC, rowsC_length W cs ds n]
theorem rowsC_mem {W : Nat} {cs : List Bool} {ds : List Int} : ∀ {n : Nat} {p : List UInt8}, p ∈ rowsC W cs ds n → ∃ y, y < n ∧ p = rowC W cs ds y
  | 0, p, h => by simp [rowsC] at h
  | n + 1, p, h => by
    rcases List.mem_cons.1 h with rfl | h
    · exact ⟨n, by omega, rfl⟩
    · obtain ⟨y, hy, rfl⟩ := rowsC_mem h
      exact ⟨y, by omega, rfl⟩

/-- What a sign of a puzzle may be. -/
def okC (c : UInt8) : Bool := decide (c.toNat = 46 ∨ 48 ≤ c.toNat ∧ c.toNat ≤ 54)
def dgC (c : UInt8) : Int := if c.toNat = 46 then -1 else (c.toNat : Int) - 48

theorem b8_toNat {n : Int} (_h0 : 0 ≤ n) (h1 : n < 256) : (b8 n).toNat = n.toNat := by
  show (UInt8.ofNat n.toNat).toNat = _
  simp
  omega

theorem sgC_ok {cs : List Bool} {ds : List Int} (h : digsB cs ds = true) {k : Nat} (hk : k < cs.length) : okC (sgC cs ds k) = true := by
  simp only [digsB, Bool.and_eq_true, decide_eq_true_eq, allB_iff] at h
  have := h.2 k (by omega)
  unfold sgC okC
  unfold digAt at this
  split
  · rename_i hc
    rw [if_pos hc] at this
    simp at this
    rw [b8_toNat (by omega) (by omega)]
    simp
    omega
  · rfl

theorem cell_lt {W T y x : Nat} (hy : y < T) (hx : x < W) : y * W + x < T * W := by
  have : (y + 1) * W ≤ T * W := Nat.mul_le_mul_right _ hy
  rw [Nat.succ_mul] at this
  omega

theorem rowsC_ok {W T : Nat} {cs : List Bool} {ds : List Int} (h : digsB cs ds = true) (hl : cs.length = T * W) {p : List UInt8} (hp : p ∈ rowsC W cs ds T) : p.length = W ∧ ∀ c ∈ p, okC c = true := by
  obtain ⟨y, hy, rfl⟩ := rowsC_mem hp
  refine ⟨by simp, fun c hc => ?_⟩
  obtain ⟨x, hx, rfl⟩ := List.mem_map.1 hc
  exact sgC_ok h (by rw [hl]; exact cell_lt hy (List.mem_range.1 hx))
theorem okC_47 {p : List UInt8} (h : ∀ c ∈ p, okC c = true) : (47 : UInt8) ∉ p := fun hm => by
  have := h 47 hm
  revert this
  decide

/-- The rows of a text, from the south, one after the other. -/
def flT (s : List UInt8) : List UInt8 := (cutL 47 s).reverse.flatten
def csT (s : List UInt8) : List Bool := (flT s).map fun c => !decide (c.toNat = 46)
def dsT (s : List UInt8) : List Int := (flT s).map fun c => digT [c]
def dsI (s : List UInt8) : List Int := (flT s).map dgC
def wT (s : List UInt8) : Nat := (nth (cutL 47 s) 0).length
def tT (s : List UInt8) : Nat := (cutL 47 s).length
/-- Whether a text is read: by the reference, and by the program. -/
def rpB (s : List UInt8) : Bool := decide (s ≠ []) && decide (ptext (wT s) (tT s) (csT s) (dsT s) = s)
def rowsB (s : List UInt8) : Bool := (cutL 47 s).all fun p => decide (p.length = wT s) && p.all okC
def riB (s : List UInt8) : Bool := decide (1 ≤ wT s ∧ wT s ≤ 6 ∧ 1 ≤ tT s ∧ tT s ≤ 6) && rowsB s && regB (wT s) (tT s) (csT s)

theorem flat_len {W : Nat} : ∀ {qs : List (List UInt8)}, (∀ p ∈ qs, p.length = W) → qs.flatten.length = qs.length * W
  | [], _ => by simp
  | q :: qs, h => by
    have ih := flat_len (qs := qs) fun p hp => h p (by simp [hp])
    have h0 := h q (by simp)
    simp only [List.flatten_cons, List.length_append, ih, h0, List.length_cons, Nat.succ_mul]
    omega
theorem flat_at {W : Nat} : ∀ {qs : List (List UInt8)} {y x : Nat}, (∀ p ∈ qs, p.length = W) → (hy : y < qs.length) → x < W → qs.flatten[y * W + x]? = (qs[y]'hy)[x]?
  | [], y, x, _, hy, _ => by simp at hy
  | q :: qs, 0, x, h, hy, hx => by
    have hq := h q (by simp)
    simp only [List.flatten_cons, Nat.zero_mul, Nat.zero_add, List.getElem_cons_zero]
    rw [List.getElem?_append_left (by omega)]
  | q :: qs, y + 1, x, h, hy, hx => by
    have h0 := h q (by simp)
    simp only [List.flatten_cons, List.getElem_cons_succ, Nat.succ_mul]
    rw [List.getElem?_append_right (by omega), show y * W + W + x - q.length = y * W + x by omega]
    exact flat_at (fun p hp => h p (by simp [hp])) (by simpa using hy) hx

theorem sgC_flat {fl : List UInt8} {k : Nat} {c : UInt8} (h : fl[k]? = some c) (ho : okC c = true) : sgC (fl.map fun c => !decide (c.toNat = 46)) (fl.map dgC) k = c := by
  obtain ⟨hk, hc⟩ := List.getElem?_eq_some_iff.1 h
  unfold sgC atb ati
  simp only [List.getD_eq_getElem?_getD, Int.toNat_natCast, List.getElem?_map, h, Option.map_some, Option.getD_some]
  unfold okC at ho
  simp at ho
  by_cases h4 : c.toNat = 46
  · simp only [h4, decide_true, Bool.not_true]
    apply UInt8.toNat_inj.1
    rw [if_neg (by simp)]
    exact h4.symm
  · simp only [h4, decide_false, Bool.not_false, if_true]
    apply UInt8.toNat_inj.1
    rw [dgC, if_neg h4, b8_toNat (by omega) (by omega)]
    omega

theorem rowC_flat {W y : Nat} {qs : List (List UInt8)} (h : ∀ p ∈ qs, p.length = W) (ho : ∀ p ∈ qs, ∀ c ∈ p, okC c = true) (hy : y < qs.length) :
    rowC W (qs.flatten.map fun c => !decide (c.toNat = 46)) (qs.flatten.map dgC) y = qs[y] := by
  have hl := h qs[y] (List.getElem_mem hy)
  apply List.ext_getElem (by simp [hl])
  intro x h1 h2
  have hx : x < W := by omega
  have hm := flat_at h hy hx
  rw [List.getElem?_eq_getElem h2] at hm
  simp only [rowC, List.getElem_map, List.getElem_range]
  exact sgC_flat hm (ho _ (List.getElem_mem hy) _ (List.getElem_mem h2))

theorem rowsC_flat {W : Nat} {qs : List (List UInt8)} (h : ∀ p ∈ qs, p.length = W) (ho : ∀ p ∈ qs, ∀ c ∈ p, okC c = true) : ∀ {n : Nat}, n ≤ qs.length →
    rowsC W (qs.flatten.map fun c => !decide (c.toNat = 46)) (qs.flatten.map dgC) n = (qs.take n).reverse
  | 0, _ => by simp [rowsC]
  | n + 1, hn => by
    rw [rowsC, rowC_flat h ho (by omega), rowsC_flat h ho (by omega), List.take_succ_eq_append_getElem (by omega), List.reverse_append]
    rfl

theorem digT_one (c : UInt8) : digT [c] = if 48 ≤ c.toNat ∧ c.toNat ≤ 57 then (c.toNat : Int) - 48 else -1 := by
  unfold digT
  rw [if_neg (by simp)]
  simp only [digsT]
  split <;> simp

theorem dsT_ok {s : List UInt8} (h : rowsB s = true) : dsT s = dsI s := by
  unfold dsT dsI
  apply List.map_congr_left
  intro c hc
  have : okC c = true := by
    obtain ⟨p, hp, hcp⟩ := List.mem_flatten.1 hc
    have := List.all_eq_true.1 h p (List.mem_reverse.1 hp)
    simp only [Bool.and_eq_true] at this
    exact List.all_eq_true.1 this.2 c hcp
  unfold okC at this
  simp at this
  rw [digT_one, dgC]
  split <;> split <;> omega

theorem rp_ri (s : List UInt8) : rpB s = riB s := by
  rw [Bool.eq_iff_iff]
  constructor
  · intro h
    simp only [rpB, Bool.and_eq_true, decide_eq_true_eq] at h
    obtain ⟨h0, h1⟩ := h
    by_cases hv : (regB (wT s) (tT s) (csT s) && digsB (csT s) (dsT s)) = true
    · rw [ptext, if_pos hv] at h1
      simp only [Bool.and_eq_true] at hv
      obtain ⟨hr, hd⟩ := hv
      have hr' := hr
      simp only [regB, decide_eq_true_eq] at hr'
      obtain ⟨w1, w2, t1, t2, hl, _⟩ := hr'
      have hl' : (csT s).length = tT s * wT s := by
        have : ((csT s).length : Int) = ((tT s * wT s : Nat) : Int) := by rw [hl, Int.natCast_mul, Int.mul_comm]
        exact Int.ofNat.inj this
      simp only [Int.toNat_natCast] at h1
      have ok := fun p hp => rowsC_ok (p := p) hd hl' hp
      have hc : cutL 47 s = rowsC (wT s) (csT s) (dsT s) (tT s) := by
        conv => lhs; rw [← h1]
        exact cut_join (fun e => by have := congrArg List.length e; simp at this; omega) (fun p hp => okC_47 (ok p hp).2)
      simp only [riB, Bool.and_eq_true, decide_eq_true_eq]
      refine ⟨⟨⟨by omega, by omega, by omega, by omega⟩, ?_⟩, hr⟩
      unfold rowsB
      rw [List.all_eq_true]
      intro p hp
      rw [hc] at hp
      have := ok p hp
      simp only [this.1, decide_true, Bool.true_and, List.all_eq_true]
      exact this.2
    · rw [ptext, if_neg hv] at h1
      exact absurd h1.symm h0
  · intro h
    simp only [riB, Bool.and_eq_true, decide_eq_true_eq] at h
    obtain ⟨⟨⟨w1, w2, t1, t2⟩, hrow⟩, hr⟩ := h
    have ed := dsT_ok hrow
    have hall := List.all_eq_true.1 hrow
    have hW : ∀ p ∈ (cutL 47 s).reverse, p.length = wT s := fun p hp => by
      have := hall p (List.mem_reverse.1 hp)
      simp only [Bool.and_eq_true, decide_eq_true_eq] at this
      exact this.1
    have hO : ∀ p ∈ (cutL 47 s).reverse, ∀ c ∈ p, okC c = true := fun p hp => by
      have := hall p (List.mem_reverse.1 hp)
      simp only [Bool.and_eq_true, decide_eq_true_eq] at this
      exact List.all_eq_true.1 this.2
    have hd : digsB (csT s) (dsI s) = true := by
      simp only [digsB, Bool.and_eq_true, decide_eq_true_eq, allB_iff]
      refine ⟨by simp [csT, dsI], fun k hk => ?_⟩
      simp only [dsI, List.length_map] at hk
      have hm : okC (flT s)[k] = true := by
        obtain ⟨p, hp, hcp⟩ := List.mem_flatten.1 (List.getElem_mem hk)
        exact hO p hp _ hcp
      unfold digAt atb ati csT dsI
      simp only [List.getD_eq_getElem?_getD, Int.toNat_natCast, List.getElem?_map, List.getElem?_eq_getElem hk, Option.map_some, Option.getD_some]
      unfold okC at hm
      simp at hm
      by_cases h4 : (flT s)[k].toNat = 46
      · simp [h4, dgC]
      · simp only [h4, decide_false, Bool.not_false, if_true, dgC, if_false]
        simp
        omega
    have key : ptext (wT s) (tT s) (csT s) (dsI s) = s := by
      rw [ptext, if_pos (by rw [hr, hd]; rfl)]
      simp only [Int.toNat_natCast]
      have := rowsC_flat hW hO (n := tT s) (by simp [tT])
      unfold csT dsI flT
      rw [this, List.take_of_length_le (by simp [tT]), List.reverse_reverse]
      exact join_cut 47 s
    simp only [rpB, Bool.and_eq_true, decide_eq_true_eq]
    refine ⟨fun e => ?_, by rw [ed]; exact key⟩
    subst e
    simp [wT, cutL, nth] at w1

end Go.Proofs.Dev

namespace Go.Proofs.Dev

end Go.Proofs.Dev

namespace Go.Proofs.Dev
open Go.Sort

end Go.Proofs.Dev

namespace Go.Proofs.Dev

end Go.Proofs.Dev
