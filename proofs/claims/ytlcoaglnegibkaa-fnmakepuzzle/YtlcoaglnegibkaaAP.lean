/- Contracts of the functions of the program over slots and rows, each proved against the program itself; no condition beyond those that each theorem names. -/
import Derived.Test.YtlcoaglnegibkaaAD
import Derived.Test.YtlcoaglnegibkaaAO

set_option linter.unusedSimpArgs false
set_option linter.unusedVariables false

namespace Go.Proofs.Dev
set_option linter.unusedSimpArgs false

theorem flatMap_if {α β : Type} (c : α → Bool) (g : α → β) : ∀ l : List α, (l.flatMap fun k => if c k = true then [g k] else []) = (l.filter c).map g
  | [] => rfl
  | a :: l => by
    rw [List.flatMap_cons, flatMap_if c g l, List.filter_cons]
    cases c a <;> simp

theorem nodup_map_iff {α : Type} {f g : α → Int} : ∀ {l : List α}, (∀ x ∈ l, ∀ y ∈ l, (f x = f y ↔ g x = g y)) → ((l.map f).Nodup ↔ (l.map g).Nodup)
  | [], _ => by simp
  | a :: l, h => by
    have ih := nodup_map_iff (l := l) (f := f) (g := g) fun x hx y hy => h x (by simp [hx]) y (by simp [hy])
    simp only [List.map_cons, List.nodup_cons, ih, List.mem_map]
    constructor
    · rintro ⟨h1, h2⟩
      refine ⟨?_, h2⟩
      rintro ⟨y, hy, e⟩
      exact h1 ⟨y, hy, (h y (by simp [hy]) a (by simp)).2 e⟩
    · rintro ⟨h1, h2⟩
      refine ⟨?_, h2⟩
      rintro ⟨y, hy, e⟩
      exact h1 ⟨y, hy, (h y (by simp [hy]) a (by simp)).1 e⟩

def domK (ls : List Int) : List Nat := (List.range ls.length).filter fun k => decide (ati ls k = 1 ∨ ati ls k = 2)
theorem domK_mem {ls : List Int} {k : Nat} : k ∈ domK ls ↔ k < ls.length ∧ (ati ls k = 1 ∨ ati ls k = 2) := by simp [domK]
theorem pairs_map (W T : Int) (ds ls : List Int) : pairsI W T ds ls = (domK ls).map fun k : Nat => pairI (ati ds k) (ati ds (stepI W T k (ati ls k))) := by
  have := flatMap_if (fun k : Nat => decide (ati ls k = 1 ∨ ati ls k = 2)) (fun k : Nat => pairI (ati ds k) (ati ds (stepI W T k (ati ls k)))) (List.range ls.length)
  simp only [decide_eq_true_eq] at this
  exact this

/-- The two cells of a domino. -/
theorem dom_cells {W T : Int} {cs : List Bool} {ls : List Int} {k : Nat} (hr : regB W T cs = true) (hy : laysB W T cs ls = true) (hk : k ∈ domK ls) :
    ∃ t : Nat, stepI W T k (ati ls k) = t ∧ t < cs.length ∧ k < cs.length ∧ k < t ∧ atb cs k = true ∧ atb cs t = true ∧ ati ls t = backI (ati ls k) ∧ stepI W T t (ati ls t) = k := by
  obtain ⟨w1, w2, t1, t2, l1, _⟩ := regB_W hr
  obtain ⟨hk1, hw⟩ := domK_mem.1 hk
  have hl := lays_len hy
  obtain ⟨v1, v4, g3, g4, g5, g6⟩ := lays_at hy hk1 (by omega)
  have sb := step_back (W := W) (T := T) (k := k) (way := ati ls k) w1 (by omega) (by omega) g4
  obtain ⟨t, ht⟩ : ∃ t : Nat, stepI W T k (ati ls k) = t := ⟨(stepI W T k (ati ls k)).toNat, by omega⟩
  have hlt : (k : Int) < stepI W T k (ati ls k) := by
    unfold stepI at g4 ⊢
    rcases hw with h | h <;> rw [h] at g4 ⊢ <;> simp at g4 ⊢ <;> split at g4 <;> first | omega | (rename_i hc; rw [if_pos hc]; omega)
  rw [ht] at g5 g6 sb hlt
  exact ⟨t, ht, by omega, by omega, by omega, g3, g5, g6, by rw [g6]; exact sb.1⟩

theorem ati_map {f : Int → Int} {ds : List Int} {k : Nat} (h : k < ds.length) : ati (ds.map f) k = f (ati ds k) := by simp [ati, h]

theorem pair_eq {a b c d : Int} (ha : 0 ≤ a ∧ a ≤ 6) (hb : 0 ≤ b ∧ b ≤ 6) (hc : 0 ≤ c ∧ c ≤ 6) (hd : 0 ≤ d ∧ d ≤ 6) : pairI a b = pairI c d ↔ (a = c ∧ b = d) ∨ (a = d ∧ b = c) := by
  unfold pairI; omega

theorem names_facts {ns : List Int} (h : namesB ns = true) : (∀ d, 0 ≤ d ∧ d ≤ 6 → 0 ≤ nameI ns d ∧ nameI ns d ≤ 6) ∧ (∀ d e, (0 ≤ d ∧ d ≤ 6) → (0 ≤ e ∧ e ≤ 6) → nameI ns d = nameI ns e → d = e) := by
  simp only [namesB, Bool.and_eq_true, decide_eq_true_eq, allB_iff, onceB] at h
  obtain ⟨h7, hn, ha⟩ := h
  constructor
  · rintro d ⟨h1, h2⟩
    have := ha d.toNat (by omega)
    rw [show ((d.toNat : Nat) : Int) = d by omega] at this
    simp only [nameI, h1, if_true]; exact this
  · rintro d e ⟨d1, d2⟩ ⟨e1, e2⟩ he
    simp only [nameI, d1, e1, if_true] at he
    have hd : d.toNat < ns.length := by omega
    have hee : e.toNat < ns.length := by omega
    simp only [ati, List.getD_eq_getElem?_getD, List.getElem?_eq_getElem hd, List.getElem?_eq_getElem hee, Option.getD_some] at he
    have := (List.getElem_inj (h₀ := hd) (h₁ := hee) hn).1 he
    omega

theorem rel_digs {cs : List Bool} {ds ns : List Int} (hd : digsB cs ds = true) (hn : namesB ns = true) : digsB cs (ds.map (nameI ns)) = true := by
  obtain ⟨n1, _⟩ := names_facts hn
  simp only [digsB, Bool.and_eq_true, decide_eq_true_eq, allB_iff, List.length_map] at hd ⊢
  refine ⟨hd.1, fun k hk => ?_⟩
  have := hd.2 k hk
  simp only [digAt] at this ⊢
  rw [ati_map hk]
  split at this
  · rename_i hc
    rw [if_pos hc]
    simp only [decide_eq_true_eq] at this ⊢
    exact n1 _ this
  · rename_i hc
    rw [if_neg hc]
    simp only [decide_eq_true_eq] at this ⊢
    rw [this]; rfl

theorem rel_once {W T : Int} {cs : List Bool} {ds ns ls : List Int} (hr : regB W T cs = true) (hd : digsB cs ds = true) (hn : namesB ns = true) (hy : laysB W T cs ls = true) : onceB (pairsI W T (ds.map (nameI ns)) ls) = onceB (pairsI W T ds ls) := by
  obtain ⟨n1, n2⟩ := names_facts hn
  have hdl : ds.length = cs.length := by simp only [digsB, Bool.and_eq_true, decide_eq_true_eq] at hd; exact hd.1
  rw [Bool.eq_iff_iff]
  simp only [onceB, decide_eq_true_eq, pairs_map]
  refine nodup_map_iff ?_
  intro x hx y hy'
  obtain ⟨t, e, t1, t2, t3, t4, t5, _⟩ := dom_cells hr hy hx
  obtain ⟨u, e', u1, u2, u3, u4, u5, _⟩ := dom_cells hr hy hy'
  rw [e, e', ati_map (by omega), ati_map (by omega), ati_map (by omega), ati_map (by omega)]
  have a1 := digs_at hd t2 t4
  have a2 := digs_at hd t1 t5
  have a3 := digs_at hd u2 u4
  have a4 := digs_at hd u1 u5
  rw [pair_eq (n1 _ a1) (n1 _ a2) (n1 _ a3) (n1 _ a4), pair_eq a1 a2 a3 a4]
  constructor
  · rintro (⟨p, q⟩ | ⟨p, q⟩)
    · exact .inl ⟨n2 _ _ a1 a3 p, n2 _ _ a2 a4 q⟩
    · exact .inr ⟨n2 _ _ a1 a4 p, n2 _ _ a2 a3 q⟩
  · rintro (⟨p, q⟩ | ⟨p, q⟩)
    · exact .inl ⟨by rw [p], by rw [q]⟩
    · exact .inr ⟨by rw [p], by rw [q]⟩

/-- The changed puzzle has the same solutions. -/
theorem rel_sols {W T : Int} {cs : List Bool} {ds ns : List Int} (hr : regB W T cs = true) (hd : digsB cs ds = true) (hn : namesB ns = true) : solsI W T cs (ds.map (nameI ns)) = solsI W T cs ds := by
  have hd2 := rel_digs hd hn
  rw [sols_fair (ds := ds.map (nameI ns)) (by simp [hr, hd2]), sols_fair (ds := ds) (by simp [hr, hd])]
  apply List.filter_congr
  intro t ht
  rw [tilesI, if_pos hr] at ht
  have hz : zeros (noneL cs) ≤ cs.length := by have := zeros_le (noneL cs); simp [noneL] at this ⊢; exact this
  exact rel_once hr hd hn (allT_full hr cs.length (noneL cs) hz (lays_none W T cs) t ht).1

/-- The same number everywhere. -/
theorem same_digs {cs : List Bool} {ds : List Int} (hd : digsB cs ds = true) : digsB cs (ds.map fun d => min d 0) = true := by
  simp only [digsB, Bool.and_eq_true, decide_eq_true_eq, allB_iff, List.length_map] at hd ⊢
  refine ⟨hd.1, fun k hk => ?_⟩
  have := hd.2 k hk
  simp only [digAt] at this ⊢
  rw [ati_map hk]
  split at this
  · rename_i hc
    rw [if_pos hc]
    simp only [decide_eq_true_eq] at this ⊢
    omega
  · rename_i hc
    rw [if_neg hc]
    simp only [decide_eq_true_eq] at this ⊢
    omega

/-! Made puzzles. -/
def mkM (ls : List Int) (fr k : Nat) : Nat := (fr + domTo ls k) % 28
def mkV (W T : Int) (ls : List Int) (fr i j : Nat) : Int :=
  if domB ls j = true then (if j < i then (prAt (mkM ls fr j)).1 else -1) else
  if 3 ≤ ati ls j then (if stepI W T j (ati ls j) < i then (prAt (mkM ls fr (stepI W T j (ati ls j)).toNat)).2 else -1) else -1

theorem domB_iff {ls : List Int} {k : Nat} : domB ls k = true ↔ (ati ls k = 1 ∨ ati ls k = 2) := by simp [domB]

/-- The domino of a cell, seen from behind. -/
theorem back_cells {W T : Int} {cs : List Bool} {ls : List Int} {j : Nat} (hr : regB W T cs = true) (hy : laysB W T cs ls = true) (hj : j < ls.length) (hw : 3 ≤ ati ls j) :
    ∃ k : Nat, stepI W T j (ati ls j) = k ∧ k ∈ domK ls ∧ stepI W T k (ati ls k) = j := by
  obtain ⟨w1, w2, t1, t2, l1, _⟩ := regB_W hr
  have hl := lays_len hy
  obtain ⟨v1, v4, g3, g4, g5, g6⟩ := lays_at hy hj (by omega)
  have sb := step_back (W := W) (T := T) (k := j) (way := ati ls j) w1 (by omega) (by omega) g4
  obtain ⟨k, hk⟩ : ∃ k : Nat, stepI W T j (ati ls j) = k := ⟨(stepI W T j (ati ls j)).toNat, by omega⟩
  rw [hk] at g6 sb
  have hb : backI (ati ls j) = 1 ∨ backI (ati ls j) = 2 := by unfold backI; omega
  refine ⟨k, hk, domK_mem.2 ⟨by omega, by omega⟩, by rw [g6]; exact sb.1⟩

theorem mkTo_at {W T : Int} {cs : List Bool} {ls : List Int} (fr : Nat) (hr : regB W T cs = true) (hy : laysB W T cs ls = true) : ∀ i, i ≤ ls.length → ∀ j : Nat, j < ls.length → ati (mkTo W T ls fr i) j = mkV W T ls fr i j
  | 0, _, j, hj => by
    have hl := lays_len hy
    have h0 : ati (mkTo W T ls fr 0) j = -1 := by simp [mkTo, ati, hj]
    rw [h0, mkV]
    split
    · rw [if_neg (by omega)]
    · split
      · rename_i hw
        obtain ⟨k, hk, _⟩ := back_cells hr hy hj hw
        rw [if_neg (by omega)]
      · rfl
  | i + 1, hi, j, hj => by
    have hl := lays_len hy
    have ih := mkTo_at fr hr hy i (by omega) j hj
    have hml := mkTo_length W T ls fr i
    simp only [mkTo]
    by_cases hd : domB ls i = true
    · rw [if_pos hd]
      have hdk : i ∈ domK ls := domK_mem.2 ⟨by omega, domB_iff.1 hd⟩
      obtain ⟨t, e, q1, q2, q3, q4, q5, q6, q7⟩ := dom_cells hr hy hdk
      have hb3 : 3 ≤ ati ls t := by
        rw [q6]
        rcases domB_iff.1 hd with h | h <;> rw [h] <;> decide
      have htd : ¬ domB ls t = true := by rw [domB_iff]; omega
      rw [e]
      simp only [Int.toNat_natCast, putP]
      rw [ati_set (by simp [hml]; omega), ati_set (by omega)]
      by_cases e1 : j = t
      · subst e1
        rw [if_pos rfl, mkV, if_neg htd, if_pos hb3, q7, if_pos (by omega)]
        rfl
      rw [if_neg e1]
      by_cases e2 : j = i
      · subst e2
        rw [if_pos rfl, mkV, if_pos hd, if_pos (by omega)]
        rfl
      rw [if_neg e2, ih]
      unfold mkV
      by_cases hdj : domB ls j = true
      · rw [if_pos hdj, if_pos hdj]
        by_cases h : j < i
        · rw [if_pos h, if_pos (by omega)]
        · rw [if_neg h, if_neg (by omega)]
      · rw [if_neg hdj, if_neg hdj]
        by_cases hw : 3 ≤ ati ls j
        · rw [if_pos hw, if_pos hw]
          obtain ⟨k, hk, hkd, hks⟩ := back_cells hr hy hj hw
          have hne : k ≠ i := by
            intro h
            subst h
            rw [e] at hks
            omega
          rw [hk]
          by_cases h : k < i
          · rw [if_pos (by omega), if_pos (by omega)]
          · rw [if_neg (by omega), if_neg (by omega)]
        · rw [if_neg hw, if_neg hw]
    · rw [if_neg hd, ih]
      unfold mkV
      by_cases hdj : domB ls j = true
      · have : j ≠ i := fun h => hd (h ▸ hdj)
        rw [if_pos hdj, if_pos hdj]
        by_cases h : j < i
        · rw [if_pos h, if_pos (by omega)]
        · rw [if_neg h, if_neg (by omega)]
      · rw [if_neg hdj, if_neg hdj]
        by_cases hw : 3 ≤ ati ls j
        · rw [if_pos hw, if_pos hw]
          obtain ⟨k, hk, hkd, hks⟩ := back_cells hr hy hj hw
          have hne : k ≠ i := by
            intro h
            subst h
            exact hd (domB_iff.2 (domK_mem.1 hkd).2)
          rw [hk]
          by_cases h : k < i
          · rw [if_pos (by omega), if_pos (by omega)]
          · rw [if_neg (by omega), if_neg (by omega)]
        · rw [if_neg hw, if_neg hw]

theorem prAt_in {n : Nat} (h : n < 28) : (0 ≤ (prAt n).1 ∧ (prAt n).1 ≤ 6) ∧ (0 ≤ (prAt n).2 ∧ (prAt n).2 ≤ 6) := by
  have : ∀ n < 28, (0 ≤ (prAt n).1 ∧ (prAt n).1 ≤ 6) ∧ (0 ≤ (prAt n).2 ∧ (prAt n).2 ≤ 6) := by decide
  exact this n h
theorem prAt_inj {n m : Nat} (hn : n < 28) (hm : m < 28) (h : pairI (prAt n).1 (prAt n).2 = pairI (prAt m).1 (prAt m).2) : n = m := by
  have : ∀ n < 28, pairI (prAt n).1 (prAt n).2 = pairL.getD n 0 := by decide
  rw [this n hn, this m hm] at h
  have hnd : pairL.Nodup := by decide
  have hl : pairL.length = 28 := by decide
  have h1 : n < pairL.length := by omega
  have h2 : m < pairL.length := by omega
  simp only [List.getD_eq_getElem?_getD, List.getElem?_eq_getElem h1, List.getElem?_eq_getElem h2, Option.getD_some] at h
  exact (List.getElem_inj (h₀ := h1) (h₁ := h2) hnd).1 h

theorem domTo_many {W T : Int} {cs : List Bool} {ls : List Int} (hr : regB W T cs = true) (hy : laysB W T cs ls = true) : ∀ i, i ≤ ls.length → domTo ls i ≤ manyOf (cs.take i)
  | 0, _ => by simp [domTo]
  | i + 1, hi => by
    have hl := lays_len hy
    have ih := domTo_many hr hy i (by omega)
    rw [domTo, manyOf_take cs i (by omega)]
    by_cases hd : domB ls i = true
    · obtain ⟨t, _, _, _, _, q4, _⟩ := dom_cells hr hy (domK_mem.2 ⟨by omega, domB_iff.1 hd⟩)
      rw [if_pos hd, if_pos q4]; omega
    · rw [if_neg hd]; omega

theorem manyOf_take_le (bs : List Bool) (i : Nat) : manyOf (bs.take i) ≤ manyOf bs := by
  have := manyOf_append (bs.take i) (bs.drop i)
  rw [List.take_append_drop] at this
  omega

theorem domTo_mono {ls : List Int} : ∀ (d i : Nat), domTo ls i ≤ domTo ls (i + d)
  | 0, i => Nat.le_refl _
  | d + 1, i => by
    have := domTo_mono (ls := ls) d i
    rw [show i + (d + 1) = (i + d) + 1 by omega, domTo]; omega

theorem domTo_inj {ls : List Int} {j k : Nat} (hj : domB ls j = true) (hlt : j < k) : domTo ls j < domTo ls k := by
  have h1 : domTo ls (j + 1) = domTo ls j + 1 := by rw [domTo, if_pos hj]
  have h2 := domTo_mono (ls := ls) (k - (j + 1)) (j + 1)
  rw [show j + 1 + (k - (j + 1)) = k by omega] at h2
  omega

/-- Made puzzles are solved. -/
theorem make_solved {W T : Int} {cs : List Bool} {ls : List Int} {fr : Nat} (hr : regB W T cs = true) (hy : laysB W T cs ls = true) (hf : fullB cs ls = true) :
    digsB cs (mkTo W T ls fr ls.length) = true ∧ solvedB W T cs (mkTo W T ls fr ls.length) ls = true := by
  have hl := lays_len hy
  have hm28 : ∀ k, mkM ls fr k < 28 := fun k => Nat.mod_lt _ (by omega)
  have hat := fun j hj => mkTo_at fr hr hy ls.length (Nat.le_refl _) j hj
  have hml := mkTo_length W T ls fr ls.length
  have hd : digsB cs (mkTo W T ls fr ls.length) = true := by
    simp only [digsB, Bool.and_eq_true, decide_eq_true_eq, allB_iff]
    refine ⟨by omega, fun k hk => ?_⟩
    rw [hml] at hk
    simp only [digAt]
    rw [hat k hk]
    by_cases hc : atb cs k = true
    · have hv := full_at hf (k := k) (by omega) hc
      obtain ⟨v1, v4, _⟩ := lays_at hy hk hv
      rw [if_pos hc, decide_eq_true_eq, mkV]
      by_cases hdk : domB ls k = true
      · rw [if_pos hdk, if_pos hk]
        exact (prAt_in (hm28 k)).1
      · have hw : 3 ≤ ati ls k := by
          rw [domB_iff] at hdk; omega
        obtain ⟨s, hs, hsd, _⟩ := back_cells hr hy hk hw
        have := (domK_mem.1 hsd).1
        rw [if_neg hdk, if_pos hw, if_pos (by omega)]
        exact (prAt_in (hm28 _)).2
    · rw [if_neg hc, decide_eq_true_eq, mkV]
      have hz : ati ls k = 0 := by
        by_cases h : ati ls k = 0
        · exact h
        · exact absurd (lays_at hy hk h).2.2.1 hc
      rw [if_neg (by rw [domB_iff]; omega), if_neg (by omega)]
  refine ⟨hd, ?_⟩
  simp only [solvedB, Bool.and_eq_true]
  refine ⟨fair_of hr hd hy ?_, hf⟩
  simp only [onceB, decide_eq_true_eq, pairs_map]
  have hval : ∀ k ∈ domK ls, pairI (ati (mkTo W T ls fr ls.length) k) (ati (mkTo W T ls fr ls.length) (stepI W T k (ati ls k))) = pairI (prAt (mkM ls fr k)).1 (prAt (mkM ls fr k)).2 := by
    intro k hk
    obtain ⟨t, e, q1, q2, q3, q4, q5, q6, q7⟩ := dom_cells hr hy hk
    have hw := (domK_mem.1 hk).2
    have hb3 : 3 ≤ ati ls t := by
      rw [q6]
      rcases hw with h | h <;> rw [h] <;> decide
    rw [e, hat k (by omega), hat t (by omega)]
    congr 1
    · rw [mkV, if_pos (domB_iff.2 hw), if_pos (by omega)]
    · rw [mkV, if_neg (by rw [domB_iff]; omega), if_pos hb3, q7, if_pos (by omega)]
      rfl
  have hnd : ∀ x ∈ domK ls, ∀ y ∈ domK ls, (pairI (ati (mkTo W T ls fr ls.length) x) (ati (mkTo W T ls fr ls.length) (stepI W T x (ati ls x))) = pairI (ati (mkTo W T ls fr ls.length) y) (ati (mkTo W T ls fr ls.length) (stepI W T y (ati ls y))) ↔ ((x : Nat) : Int) = ((y : Nat) : Int)) := by
    intro x hx y hy2
    constructor
    · intro h
      rw [hval x hx, hval y hy2] at h
      have h2 := prAt_inj (hm28 x) (hm28 y) h
      have hx2 := domK_mem.1 hx
      have hy3 := domK_mem.1 hy2
      have b1 := domTo_many hr hy x (by omega)
      have b2 := domTo_many hr hy y (by omega)
      have b3 := manyOf_take_le cs x
      have b4 := manyOf_take_le cs y
      obtain ⟨w1, w2, t1, t2, l1, m24⟩ := regB_W hr
      unfold mkM at h2
      rcases Nat.lt_trichotomy x y with h3 | h3 | h3
      · have := domTo_inj (domB_iff.2 hx2.2) h3
        omega
      · omega
      · have := domTo_inj (domB_iff.2 hy3.2) h3
        omega
    · intro h
      have : x = y := by omega
      rw [this]
  rw [nodup_map_iff hnd]
  have hkd : (domK ls).Nodup := List.nodup_range.filter _
  have : ((domK ls).map fun k : Nat => (k : Int)).Nodup := by
    rw [List.nodup_iff_pairwise_ne, List.pairwise_map]
    exact List.Pairwise.imp (fun h e => h (by omega)) (List.nodup_iff_pairwise_ne.1 hkd)
  exact this

end Go.Proofs.Dev
