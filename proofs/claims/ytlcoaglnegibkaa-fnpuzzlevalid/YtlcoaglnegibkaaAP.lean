/- Contracts of the functions of the program over slots and rows, each proved against the program itself; no condition beyond those that each theorem names. -/
import Derived.Test.YtlcoaglnegibkaaAD
import Derived.Test.YtlcoaglnegibkaaAO

set_option linter.unusedSimpArgs false
set_option linter.unusedVariables false

namespace Go.Proofs.Dev
set_option linter.unusedSimpArgs false

theorem flatMap_if {α β : Type} (c : α → Bool) (g : α → β) : ∀ l : List α, (l.flatMap fun k => if c k = true then [g k] else []) = (l.filter c).map g
  | [] => rfl
  | a :: l => by
    rw [List.flatMap_cons, flatMap_if c g l, List.filter_cons]
    cases c a <;> simp

theorem nodup_map_iff {α : Type} {f g : α → Int} : ∀ {l : List α}, (∀ x ∈ l, ∀ y ∈ l, (f x = f y ↔ g x = g y)) → ((l.map f).Nodup ↔ (l.map g).Nodup)
  | [], _ => by simp
  | a :: l, h => by
    have ih := nodup_map_iff (l := l) (f := f) (g := g) fun x hx y hy => h x (by simp [hx]) y (by simp [hy])
    simp only [List.map_cons, List.nodup_cons, ih, List.mem_map]
    constructor
    · rintro ⟨h1, h2⟩
      refine ⟨?_, h2⟩
      rintro ⟨y, hy, e⟩
      exact h1 ⟨y, hy, (h y (by simp [hy]) a (by simp)).2 e⟩
    · rintro ⟨h1, h2⟩
      refine ⟨?_, h2⟩
      rintro ⟨y, hy, e⟩
      exact h1 ⟨y, hy, (h y (by simp [hy]) a (by simp)).1 e⟩

def domK (ls : List Int) : List Nat := (List.range ls.length).filter fun k => decide (ati ls k = 1 ∨ ati ls k = 2)
theorem domK_mem {ls : List Int} {k : Nat} : k ∈ domK ls ↔ k < ls.length ∧ (ati ls k = 1 ∨ ati ls k = 2) := by simp [domK]
theorem pairs_map (W T : Int) (ds ls : List Int) : pairsI W T ds ls = (domK ls).map fun k : Nat => pairI (ati ds k) (ati ds (stepI W T k (ati ls k))) := by
  have := flatMap_if (fun k : Nat => decide (ati ls k = 1 ∨ ati ls k = 2)) (fun k : Nat => pairI (ati ds k) (ati ds (stepI W T k (ati ls k)))) (List.range ls.length)
  simp only [decide_eq_true_eq] at this
  exact this

/-- The two cells of a domino. -/
theorem dom_cells {W T : Int} {cs : List Bool} {ls : List Int} {k : Nat} (hr : regB W T cs = true) (hy : laysB W T cs ls = true) (hk : k ∈ domK ls) :
    ∃ t : Nat, stepI W T k (ati ls k) = t ∧ t < cs.length ∧ k < cs.length ∧ k < t ∧ atb cs k = true ∧ atb cs t = true ∧ ati ls t = backI (ati ls k) ∧ stepI W T t (ati ls t) = k := by
  obtain ⟨w1, w2, t1, t2, l1, _⟩ := regB_W hr
  obtain ⟨hk1, hw⟩ := domK_mem.1 hk
  have hl := lays_len hy
  obtain ⟨v1, v4, g3, g4, g5, g6⟩ := lays_at hy hk1 (by omega)
  have sb := step_back (W := W) (T := T) (k := k) (way := ati ls k) w1 (by omega) (by omega) g4
  obtain ⟨t, ht⟩ : ∃ t : Nat, stepI W T k (ati ls k) = t := ⟨(stepI W T k (ati ls k)).toNat, by omega⟩
  have hlt : (k : Int) < stepI W T k (ati ls k) := by
    unfold stepI at g4 ⊢
    rcases hw with h | h <;> rw [h] at g4 ⊢ <;> simp at g4 ⊢ <;> split at g4 <;> first | omega | (rename_i hc; rw [if_pos hc]; omega)
  rw [ht] at g5 g6 sb hlt
  exact ⟨t, ht, by omega, by omega, by omega, g3, g5, g6, by rw [g6]; exact sb.1⟩

theorem ati_map {f : Int → Int} {ds : List Int} {k : Nat} (h : k < ds.length) : ati (ds.map f) k = f (ati ds k) := by simp [ati, h]

theorem pair_eq {a b c d : Int} (ha : 0 ≤ a ∧ a ≤ 6) (hb : 0 ≤ b ∧ b ≤ 6) (hc : 0 ≤ c ∧ c ≤ 6) (hd : 0 ≤ d ∧ d ≤ 6) : pairI a b = pairI c d ↔ (a = c ∧ b = d) ∨ (a = d ∧ b = c) := by
  unfold pairI; omega

theorem names_facts {ns : List Int} (h : namesB ns = true) : (∀ d, 0 ≤ d ∧ d ≤ 6 → 0 ≤ nameI ns d ∧ nameI ns d ≤ 6) ∧ (∀ d e, (0 ≤ d ∧ d ≤ 6) → (0 ≤ e ∧ e ≤ 6) → nameI ns d = nameI ns e → d = e) := by
  simp only [namesB, Bool.and_eq_true, decide_eq_true_eq, allB_iff, onceB] at h
  obtain ⟨h7, hn, ha⟩ := h
  constructor
  · rintro d ⟨h1, h2⟩
    have := ha d.toNat (by omega)
    rw [show ((d.toNat : Nat) : Int) = d by omega] at this
    simp only [nameI, h1, if_true]; exact this
  · rintro d e ⟨d1, d2⟩ ⟨e1, e2⟩ he
    simp only [nameI, d1, e1, if_true] at he
    have hd : d.toNat < ns.length := by omega
    have hee : e.toNat < ns.length := by omega
    simp only [ati, List.getD_eq_getElem?_getD, List.getElem?_eq_getElem hd, List.getElem?_eq_getElem hee, Option.getD_some] at he
    have := (List.getElem_inj (h₀ := hd) (h₁ := hee) hn).1 he
    omega

theorem rel_digs {cs : List Bool} {ds ns : List Int} (hd : digsB cs ds = true) (hn : namesB ns = true) : digsB cs (ds.map (nameI ns)) = true := by
  obtain ⟨n1, _⟩ := names_facts hn
  simp only [digsB, Bool.and_eq_true, decide_eq_true_eq, allB_iff, List.length_map] at hd ⊢
  refine ⟨hd.1, fun k hk => ?_⟩
  have := hd.2 k hk
  simp only [digAt] at this ⊢
  rw [ati_map hk]
  split at this
  · rename_i hc
    rw [if_pos hc]
    simp only [decide_eq_true_eq] at this ⊢
    exact n1 _ this
  · rename_i hc
    rw [if_neg hc]
    simp only [decide_eq_true_eq] at this ⊢
    rw [this]; rfl

theorem rel_once {W T : Int} {cs : List Bool} {ds ns ls : List Int} (hr : regB W T cs = true) (hd : digsB cs ds = true) (hn : namesB ns = true) (hy : laysB W T cs ls = true) : onceB (pairsI W T (ds.map (nameI ns)) ls) = onceB (pairsI W T ds ls) := by
  obtain ⟨n1, n2⟩ := names_facts hn
  have hdl : ds.length = cs.length := by simp only [digsB, Bool.and_eq_true, decide_eq_true_eq] at hd; exact hd.1
  rw [Bool.eq_iff_iff]
  simp only [onceB, decide_eq_true_eq, pairs_map]
  refine nodup_map_iff ?_
  intro x hx y hy'
  obtain ⟨t, e, t1, t2, t3, t4, t5, _⟩ := dom_cells hr hy hx
  obtain ⟨u, e', u1, u2, u3, u4, u5, _⟩ := dom_cells hr hy hy'
  rw [e, e', ati_map (by omega), ati_map (by omega), ati_map (by omega), ati_map (by omega)]
  have a1 := digs_at hd t2 t4
  have a2 := digs_at hd t1 t5
  have a3 := digs_at hd u2 u4
  have a4 := digs_at hd u1 u5
  rw [pair_eq (n1 _ a1) (n1 _ a2) (n1 _ a3) (n1 _ a4), pair_eq a1 a2 a3 a4]
  constructor
  · rintro (⟨p, q⟩ | ⟨p, q⟩)
    · exact .inl ⟨n2 _ _ a1 a3 p, n2 _ _ a2 a4 q⟩
    · exact .inr ⟨n2 _ _ a1 a4 p, n2 _ _ a2 a3 q⟩
  · rintro (⟨p, q⟩ | ⟨p, q⟩)
    · exact .inl ⟨by rw [p], by rw [q]⟩
    · exact .inr ⟨by rw [p], by rw [q]⟩

/-- The changed puzzle has the same solutions. -/
theorem rel_sols {W T : Int} {cs : List Bool} {ds ns : List Int} (hr : regB W T cs = true) (hd : digsB cs ds = true) (hn : namesB ns = true) : solsI W T cs (ds.map (nameI ns)) = solsI W T cs ds := by
  have hd2 := rel_digs hd hn
  rw [sols_fair (ds := ds.map (nameI ns)) (by simp [hr, hd2]), sols_fair (ds := ds) (by simp [hr, hd])]
  apply List.filter_congr
  intro t ht
  rw [tilesI, if_pos hr] at ht
  have hz : zeros (noneL cs) ≤ cs.length := by have := zeros_le (noneL cs); simp [noneL] at this ⊢; exact this
  exact rel_once hr hd hn (allT_full hr cs.length (noneL cs) hz (lays_none W T cs) t ht).1

/-- The same number everywhere. -/
theorem same_digs {cs : List Bool} {ds : List Int} (hd : digsB cs ds = true) : digsB cs (ds.map fun d => min d 0) = true := by
  simp only [digsB, Bool.and_eq_true, decide_eq_true_eq, allB_iff, List.length_map] at hd ⊢
  refine ⟨hd.1, fun k hk => ?_⟩
  have := hd.2 k hk
  simp only [digAt] at this ⊢
  rw [ati_map hk]
  split at this
  · rename_i hc
    rw [if_pos hc]
    simp only [decide_eq_true_eq] at this ⊢
    omega
  · rename_i hc
    rw [if_neg hc]
    simp only [decide_eq_true_eq] at this ⊢
    omega

/-! Made puzzles. -/
end Go.Proofs.Dev
