/- Contracts of the functions of the program over slots and rows, each proved against the program itself; no condition beyond those that each theorem names. -/
import Derived.Test.YtlcoaglnegibkaaGreatAA

set_option linter.unusedSimpArgs false
set_option linter.unusedVariables false

namespace Go.Proofs.Dev
set_option linter.unusedSimpArgs false

/-- A list has all dominoes of another. -/
def hasB (ls p : List Int) : Bool := allB ls.length fun k => decide (ati ls k = 0) || decide (ati p k = ati ls k)

theorem hasB_iff {ls p : List Int} : hasB ls p = true ↔ ∀ k : Nat, k < ls.length → ati ls k = 0 ∨ ati p k = ati ls k := by
  simp only [hasB, allB_iff, Bool.or_eq_true, decide_eq_true_eq]

theorem hasB_refl (ls : List Int) : hasB ls ls = true := hasB_iff.2 fun _ _ => .inr rfl

theorem firstI_min {p : Nat → Bool} {n k : Nat} (h : firstI p n = k) : ∀ j, j < k → p j = false := by
  intro j hj
  unfold firstI at h
  split at h
  · rename_i k' hk
    rw [List.find?_range_eq_some] at hk
    have : k' = k := by omega
    subst this
    have := hk.2.2 j hj
    simpa using this
  · omega

theorem ati_lay {W T : Int} {ls : List Int} {cell way : Int} (hc : cell.toNat < ls.length) (hto : (stepI W T cell way).toNat < ls.length) (j : Nat) :
    ati (layI W T ls cell way) j = if j = (stepI W T cell way).toNat then backI way else if j = cell.toNat then way else ati ls j := by
  unfold layI
  rw [ati_set (by simpa using hto), ati_set hc]

theorem free_facts {W T : Int} {cs : List Bool} {ls : List Int} {k : Nat} {way : Int} (hr : regB W T cs = true) (hl : ls.length = cs.length) (hf : freeB W T cs ls k way = true) :
    ∃ t : Nat, stepI W T k way = t ∧ t < ls.length ∧ k < ls.length ∧ t ≠ k ∧ 1 ≤ way ∧ way ≤ 4 ∧ stepI W T t (backI way) = k ∧ atb cs t = true ∧ ati ls k = 0 ∧ ati ls t = 0 ∧
      ∀ j : Nat, ati (layI W T ls k way) j = if j = t then backI way else if j = k then way else ati ls j := by
  obtain ⟨w1, w2, t1, t2, l1, _⟩ := regB_W hr
  simp only [freeB, decide_eq_true_eq] at hf
  obtain ⟨f0, f1, f2, f3, f4, f5, f6⟩ := hf
  obtain ⟨b1, b2, b3, b4, b5⟩ := step_back (T := T) w1 f0 (by omega) f2
  have e : stepI W T k way = ((stepI W T k way).toNat : Nat) := by omega
  refine ⟨(stepI W T k way).toNat, e, by omega, by omega, by omega, b2, b3, by rw [← e]; exact b1, by rw [← e]; exact f4, f5, by rw [← e]; exact f6, ?_⟩
  intro j
  rw [ati_lay (by omega) (by omega)]
  simp

theorem allT_has {W T : Int} {cs : List Bool} (hr : regB W T cs = true) : ∀ (n : Nat) (ls : List Int), ls.length = cs.length → ∀ p ∈ allT W T cs n ls, hasB ls p = true := by
  intro n
  induction n with
  | zero =>
    intro ls hl p hp
    simp only [allT, List.mem_singleton] at hp
    subst hp; exact hasB_refl p
  | succ n ih =>
    intro ls hl p hp
    rw [allT] at hp
    split at hp
    · simp only [List.mem_singleton] at hp
      subst hp; exact hasB_refl p
    rcases bare_cases cs ls with h | ⟨k, hk, he, hc, hzk⟩
    · omega
    rw [he] at hp
    have step : ∀ way : Int, freeB W T cs ls k way = true → p ∈ allT W T cs n (layI W T ls k way) → hasB ls p = true := by
      intro way hf hm
      obtain ⟨t, e, t1, t2, t3, _, _, _, _, z1, z2, hat⟩ := free_facts hr hl hf
      have h1 := hasB_iff.1 (ih _ (by rw [layI_length]; exact hl) p hm)
      rw [hasB_iff]
      intro j hj
      have h2 := h1 j (by rw [layI_length]; exact hj)
      rw [hat j] at h2
      by_cases e1 : j = t
      · subst e1; exact .inl z2
      by_cases e2 : j = k
      · subst e2; exact .inl z1
      rw [if_neg e1, if_neg e2] at h2
      exact h2
    rw [List.mem_append] at hp
    rcases hp with hp | hp
    · split at hp
      · rename_i hf; exact step 1 hf hp
      · cases hp
    · split at hp
      · rename_i hf; exact step 2 hf hp
      · cases hp

theorem ati_ext {a b : List Int} (hl : a.length = b.length) (h : ∀ k : Nat, k < a.length → ati a k = ati b k) : a = b := by
  apply List.ext_getElem hl
  intro i h1 h2
  have := h i h1
  simpa [ati, h1, h2] using this

theorem lays_at {W T : Int} {cs : List Bool} {ls : List Int} (hy : laysB W T cs ls = true) {k : Nat} (hk : k < ls.length) (hv : ati ls k ≠ 0) :
    1 ≤ ati ls k ∧ ati ls k ≤ 4 ∧ atb cs k = true ∧ 0 ≤ stepI W T k (ati ls k) ∧ atb cs (stepI W T k (ati ls k)) = true ∧ ati ls (stepI W T k (ati ls k)) = backI (ati ls k) := by
  simp only [laysB, Bool.and_eq_true, decide_eq_true_eq, allB_iff] at hy
  have := hy.2 k hk
  simp only [layAt, decide_eq_true_eq] at this
  rcases this with h | h
  · exact absurd h hv
  · exact h

theorem lays_len {W T : Int} {cs : List Bool} {ls : List Int} (hy : laysB W T cs ls = true) : ls.length = cs.length := by
  simp only [laysB, Bool.and_eq_true, decide_eq_true_eq] at hy; exact hy.1

/-- A cell that a domino of a list reaches at the back is not bare. -/
theorem lays_back {W T : Int} {cs : List Bool} {ls : List Int} (hr : regB W T cs = true) (hy : laysB W T cs ls = true) {k t : Nat} {way : Int} (hk : k < ls.length) (ht : stepI W T k way = t) (hv : ati ls t = backI way) : ati ls k = way := by
  obtain ⟨w1, w2, t1, t2, l1, _⟩ := regB_W hr
  have hl := lays_len hy
  obtain ⟨b1, b2, b3, b4, b5⟩ := step_back (W := W) (T := T) (k := k) (way := way) w1 (by omega) (by omega) (by omega)
  obtain ⟨c1, c2, c3⟩ := backI_back b2 b3
  obtain ⟨_, _, _, _, _, g⟩ := lays_at hy (k := t) (by omega) (by omega)
  rw [hv, ← ht, b1, c1] at g
  exact g

theorem lay_has {W T : Int} {cs : List Bool} {b ls : List Int} {k : Nat} {way : Int} (hr : regB W T cs = true) (hb : b.length = cs.length) (hf : freeB W T cs b k way = true) (hs : hasB b ls = true) (h1 : ati ls k = way) (h2 : ati ls (stepI W T k way) = backI way) :
    hasB (layI W T b k way) ls = true := by
  obtain ⟨t, e, t1, t2, t3, _, _, _, _, z1, z2, hat⟩ := free_facts hr hb hf
  rw [e] at h2
  rw [hasB_iff] at hs ⊢
  intro j hj
  rw [layI_length] at hj
  rw [hat j]
  by_cases e1 : j = t
  · subst e1; rw [if_pos rfl]; exact .inr h2
  rw [if_neg e1]
  by_cases e2 : j = k
  · subst e2; rw [if_pos rfl]; exact .inr h1
  rw [if_neg e2]
  exact hs j hj

theorem full_same {W T : Int} {cs : List Bool} {b ls : List Int} (hyb : laysB W T cs b = true) (hyl : laysB W T cs ls = true) (hs : hasB b ls = true) (h : bareI cs b < 0) : ls = b := by
  have hbl := lays_len hyb
  have hll := lays_len hyl
  refine ati_ext (by omega) fun k hk => ?_
  rcases hasB_iff.1 hs k (by omega) with h1 | h1
  · have h2 := firstI_neg h k (by omega)
    by_cases hv : ati ls k = 0
    · omega
    · obtain ⟨_, _, g, _⟩ := lays_at hyl hk hv
      simp [bareB, h1, g] at h2
  · exact h1

theorem filter_leaf {W T : Int} {cs : List Bool} {b ls : List Int} (m n : Nat) (hyb : laysB W T cs b = true) (hyl : laysB W T cs ls = true) (hs : hasB b ls = true) (h : bareI cs b < 0) :
    (allT W T cs m b).filter (hasB ls) = allT W T cs n ls := by
  have e := full_same hyb hyl hs h
  subst e
  rw [allT_leaf _ h, allT_leaf _ h]
  simp [hasB_refl]

theorem allT_filter {W T : Int} {cs : List Bool} (hr : regB W T cs = true) : ∀ (m : Nat) (b ls : List Int) (n : Nat), zeros b ≤ m → zeros ls ≤ n → laysB W T cs b = true → laysB W T cs ls = true → hasB b ls = true →
    (allT W T cs m b).filter (hasB ls) = allT W T cs n ls := by
  obtain ⟨w1, w2, t1, t2, l1, _⟩ := regB_W hr
  intro m
  induction m with
  | zero =>
    intro b ls n hzb hzl hyb hyl hs
    rcases bare_cases cs b with h | ⟨k, hk, he, hc, hzk⟩
    · exact filter_leaf 0 n hyb hyl hs (by omega)
    · have := zeros_pos hk hzk
      omega
  | succ m ih =>
    intro b ls n hzb hzl hyb hyl hs
    rcases bare_cases cs b with h | ⟨k, hk, he, hc, hzk⟩
    · exact filter_leaf (m + 1) n hyb hyl hs (by omega)
    have hbl := lays_len hyb
    have hll := lays_len hyl
    have hk0 : ¬ (k : Int) < 0 := by omega
    have hmin : ∀ j, j < k → bareB cs b j = false := firstI_min he
    rw [allT, he, if_neg hk0, List.filter_append]
    by_cases hv : ati ls k = 0
    · have hbk : bareI cs ls = k := by
        refine firstI_hit (by omega) (by simp [bareB, hc, hv]) (fun j hj => ?_)
        have h1 := hmin j hj
        rcases hasB_iff.1 hs j (by omega) with h2 | h2
        · simp [bareB, h2] at h1
          simp [bareB, h1]
        · simp only [bareB] at h1 ⊢
          rw [h2]; exact h1
      have hzp := zeros_pos (ls := ls) (k := k) (by omega) hv
      obtain ⟨n', rfl⟩ : ∃ n', n = n' + 1 := ⟨n - 1, by omega⟩
      have stepA : ∀ way : Int, 1 ≤ way → way ≤ 4 → (if freeB W T cs b k way then allT W T cs m (layI W T b k way) else []).filter (hasB ls) = (if freeB W T cs ls k way then allT W T cs n' (layI W T ls k way) else []) := by
        intro way v1 v4
        by_cases hf : freeB W T cs ls k way = true
        · obtain ⟨t, e, a1, a2, a3, _, _, a6, a7, z1, z2, hat⟩ := free_facts hr hll hf
          have hfb : freeB W T cs b k way = true := by
            simp only [freeB, decide_eq_true_eq] at hf ⊢
            obtain ⟨f0, f1, f2, f3, f4, f5, f6⟩ := hf
            refine ⟨f0, by omega, f2, f3, f4, hzk, ?_⟩
            rw [e]
            rcases hasB_iff.1 hs t (by omega) with h2 | h2
            · exact h2
            · rw [← h2]; exact z2
          rw [if_pos hf, if_pos hfb]
          have hzb' : zeros (layI W T b k way) < zeros b := lay_zeros hk hzk v1 v4
          have hzl' : zeros (layI W T ls k way) < zeros ls := lay_zeros (by omega) hv v1 v4
          obtain ⟨t', e', _, _, _, _, _, _, _, y1, y2, hatb⟩ := free_facts hr hbl hfb
          have et : t' = t := by omega
          subst et
          have hs' : hasB (layI W T b k way) (layI W T ls k way) = true := by
            rw [hasB_iff]
            intro j hj
            rw [layI_length] at hj
            rw [hatb j, hat j]
            by_cases e1 : j = t'
            · rw [if_pos e1, if_pos e1]; exact .inr rfl
            by_cases e2 : j = k
            · rw [if_neg e1, if_neg e1, if_pos e2, if_pos e2]; exact .inr rfl
            rw [if_neg e1, if_neg e1, if_neg e2, if_neg e2]
            exact hasB_iff.1 hs j hj
          rw [← ih _ _ n' (by omega) (by omega) (lay_ok hr hyb hfb) (lay_ok hr hyl hf) hs']
          apply List.filter_congr
          intro p hp
          have hp1 := hasB_iff.1 (allT_has hr m _ (by rw [layI_length]; exact hbl) p hp)
          rw [Bool.eq_iff_iff, hasB_iff, hasB_iff]
          constructor
          · intro h j hj
            rw [layI_length] at hj
            rw [hat j]
            by_cases e1 : j = t'
            · have h5 := hp1 j (by rw [layI_length]; omega)
              rw [hatb j, if_pos e1] at h5
              rw [if_pos e1]; exact h5
            by_cases e2 : j = k
            · have h5 := hp1 j (by rw [layI_length]; omega)
              rw [hatb j, if_neg e1, if_pos e2] at h5
              rw [if_neg e1, if_pos e2]; exact h5
            rw [if_neg e1, if_neg e2]
            exact h j hj
          · intro h j hj
            have h3 := h j (by rw [layI_length]; exact hj)
            rw [hat j] at h3
            by_cases e1 : j = t'
            · subst e1; exact .inl z2
            by_cases e2 : j = k
            · subst e2; exact .inl z1
            rw [if_neg e1, if_neg e2] at h3
            exact h3
        · rw [if_neg hf]
          by_cases hfb : freeB W T cs b k way = true
          · rw [if_pos hfb, List.filter_eq_nil_iff]
            intro p hp hh
            obtain ⟨t, e, a1, a2, a3, _, _, a6, a7, y1, y2, hatb⟩ := free_facts hr hbl hfb
            have hp1 := hasB_iff.1 (allT_has hr m _ (by rw [layI_length]; exact hbl) p hp) t (by rw [layI_length]; exact a1)
            rw [hatb t, if_pos rfl] at hp1
            have hb4 := (backI_back v1 v4).2
            have hpt : ati p t = backI way := by omega
            have hlt : ati ls t ≠ 0 := by
              intro h0
              apply hf
              simp only [freeB, decide_eq_true_eq] at hfb ⊢
              obtain ⟨f0, f1, f2, f3, f4, _, _⟩ := hfb
              refine ⟨f0, f1, f2, f3, f4, hv, ?_⟩
              rw [e]; exact h0
            have hl2 := hasB_iff.1 hh t (by omega)
            have hl3 : ati ls t = backI way := by omega
            have := lays_back hr hyl (k := k) (t := t) (way := way) (by omega) e hl3
            omega
          · rw [if_neg hfb]; rfl
      rw [stepA 1 (by omega) (by omega), stepA 2 (by omega) (by omega), allT.eq_2, hbk, if_neg hk0]
    · obtain ⟨v1, v4, g3, g4, g5, g6⟩ := lays_at hyl (k := k) (by omega) hv
      obtain ⟨v, hvv⟩ : ∃ v, ati ls k = v := ⟨_, rfl⟩
      rw [hvv] at v1 v4 g4 g5 g6 hv
      obtain ⟨_, _, _, _, b5⟩ := step_back (W := W) (T := T) (k := k) (way := v) w1 (by omega) (by omega) g4
      obtain ⟨t, ht⟩ : ∃ t : Nat, stepI W T k v = t := ⟨(stepI W T k v).toNat, by omega⟩
      have hbt : ati b t = 0 := by
        rcases hasB_iff.1 hs t (by omega) with h | h
        · exact h
        · exfalso
          rw [ht] at g6
          have := lays_back hr hyb (k := k) (t := t) (way := v) hk ht (by rw [← h]; exact g6)
          omega
      have h12 : v = 1 ∨ v = 2 := by
        by_cases h3 : v ≤ 2
        · omega
        exfalso
        have hlt : t < k := by
          unfold stepI at ht
          have h4 : v = 3 ∨ v = 4 := by omega
          rcases h4 with rfl | rfl
          · simp at ht
            split at ht <;> omega
          · simp at ht
            split at ht <;> omega
        have h1 := hmin t hlt
        rw [ht] at g5
        simp [bareB, g5] at h1
        exact h1 hbt
      have hfb : freeB W T cs b k v = true := by
        simp only [freeB, decide_eq_true_eq]
        exact ⟨by omega, by omega, g4, hc, g5, hzk, by rw [ht]; exact hbt⟩
      have hzb' : zeros (layI W T b k v) < zeros b := lay_zeros hk hzk v1 v4
      have hA := ih (layI W T b k v) ls n (by omega) hzl (lay_ok hr hyb hfb) hyl (lay_has hr hbl hfb hs hvv g6)
      have other : ∀ w : Int, w ≠ v → (if freeB W T cs b k w then allT W T cs m (layI W T b k w) else []).filter (hasB ls) = [] := by
        intro w hw
        split
        · rename_i hfw
          rw [List.filter_eq_nil_iff]
          intro p hp hh
          obtain ⟨t', e, a1, a2, a3, a4, a5, _, _, _, _, hatb⟩ := free_facts hr hbl hfw
          have hp1 := hasB_iff.1 (allT_has hr m _ (by rw [layI_length]; exact hbl) p hp) k (by rw [layI_length]; exact hk)
          rw [hatb k, if_neg (fun e => a3 e.symm), if_pos rfl] at hp1
          have h7 := hasB_iff.1 hh k (by omega)
          rw [hvv] at h7
          omega
        · rfl
      rcases h12 with rfl | rfl
      · rw [other 2 (by omega), if_pos hfb, hA, List.append_nil]
      · rw [other 1 (by omega), if_pos hfb, hA, List.nil_append]

/-- The solutions that have the dominoes of a fair list. -/
theorem sols_has {W T : Int} {cs : List Bool} {ds ls : List Int} (hok : okB W T cs ds ls = true) : (allT W T cs cs.length ls).filter (fun t => onceB (pairsI W T ds t)) = (solsI W T cs ds).filter (hasB ls) := by
  have hok' := hok
  simp only [okB, Bool.and_eq_true] at hok'
  obtain ⟨hr, hd, hy⟩ := hok'
  have hl := lays_len hy
  have hz : zeros ls ≤ cs.length := by have := zeros_le ls; omega
  have hn : (noneL cs).length = cs.length := by simp [noneL]
  have hzn : zeros (noneL cs) ≤ cs.length := by have := zeros_le (noneL cs); omega
  rw [sols_fair (by simp only [hr, hd, Bool.and_self]), tilesI, if_pos hr, List.filter_filter]
  rw [← allT_filter hr cs.length (noneL cs) ls cs.length hzn hz (lays_none W T cs) hy (hasB_iff.2 fun k _ => .inl (ati_none cs k)), List.filter_filter]
  congr 1
  funext t
  exact Bool.and_comm _ _

end Go.Proofs.Dev
