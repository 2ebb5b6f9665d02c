/- Contracts of the functions of the program over slots and rows, each proved against the program itself; no condition beyond those that each theorem names. -/
import Derived.Test.YtfkmfobbgoflgaaAN
import Derived.Test.YtfkmfobbgoflgaaAS
import Derived.Test.YtfkmfobbgoflgaaAR
import Derived.Test.YtfkmfobbgoflgaaAO

set_option linter.unusedSimpArgs false
set_option linter.unusedVariables false

namespace Go.Proofs.Dev
set_option linter.unusedSimpArgs false

theorem flatMap_if {α β : Type} (c : α → Bool) (g : α → β) : ∀ l : List α, (l.flatMap fun k => if c k = true then [g k] else []) = (l.filter c).map g
  | [] => rfl
  | a :: l => by
    rw [List.flatMap_cons, flatMap_if c g l, List.filter_cons]
    cases c a <;> simp

def domK (ls : List Int) : List Nat := (List.range ls.length).filter fun k => decide (ati ls k = 1 ∨ ati ls k = 2)
theorem domK_mem {ls : List Int} {k : Nat} : k ∈ domK ls ↔ k < ls.length ∧ (ati ls k = 1 ∨ ati ls k = 2) := by simp [domK]
theorem pairs_map (W T : Int) (ds ls : List Int) : pairsI W T ds ls = (domK ls).map fun k : Nat => pairI (ati ds k) (ati ds (stepI W T k (ati ls k))) := by
  have := flatMap_if (fun k : Nat => decide (ati ls k = 1 ∨ ati ls k = 2)) (fun k : Nat => pairI (ati ds k) (ati ds (stepI W T k (ati ls k)))) (List.range ls.length)
  simp only [decide_eq_true_eq] at this
  exact this

/-- The two cells of a domino. -/
theorem dom_cells {W T : Int} {cs : List Bool} {ls : List Int} {k : Nat} (hr : regB W T cs = true) (hy : laysB W T cs ls = true) (hk : k ∈ domK ls) :
    ∃ t : Nat, stepI W T k (ati ls k) = t ∧ t < cs.length ∧ k < cs.length ∧ k < t ∧ atb cs k = true ∧ atb cs t = true ∧ ati ls t = backI (ati ls k) ∧ stepI W T t (ati ls t) = k := by
  obtain ⟨w1, w2, t1, t2, l1, _⟩ := regB_W hr
  obtain ⟨hk1, hw⟩ := domK_mem.1 hk
  have hl := lays_len hy
  obtain ⟨v1, v4, g3, g4, g5, g6⟩ := lays_at hy hk1 (by omega)
  have sb := step_back (W := W) (T := T) (k := k) (way := ati ls k) w1 (by omega) (by omega) g4
  obtain ⟨t, ht⟩ : ∃ t : Nat, stepI W T k (ati ls k) = t := ⟨(stepI W T k (ati ls k)).toNat, by omega⟩
  have hlt : (k : Int) < stepI W T k (ati ls k) := by
    unfold stepI at g4 ⊢
    rcases hw with h | h <;> rw [h] at g4 ⊢ <;> simp at g4 ⊢ <;> split at g4 <;> first | omega | (rename_i hc; rw [if_pos hc]; omega)
  rw [ht] at g5 g6 sb hlt
  exact ⟨t, ht, by omega, by omega, by omega, g3, g5, g6, by rw [g6]; exact sb.1⟩

/-! Made puzzles. -/
/-- The domino of a cell, seen from behind. -/
theorem back_cells {W T : Int} {cs : List Bool} {ls : List Int} {j : Nat} (hr : regB W T cs = true) (hy : laysB W T cs ls = true) (hj : j < ls.length) (hw : 3 ≤ ati ls j) :
    ∃ k : Nat, stepI W T j (ati ls j) = k ∧ k ∈ domK ls ∧ stepI W T k (ati ls k) = j := by
  obtain ⟨w1, w2, t1, t2, l1, _⟩ := regB_W hr
  have hl := lays_len hy
  obtain ⟨v1, v4, g3, g4, g5, g6⟩ := lays_at hy hj (by omega)
  have sb := step_back (W := W) (T := T) (k := j) (way := ati ls j) w1 (by omega) (by omega) g4
  obtain ⟨k, hk⟩ : ∃ k : Nat, stepI W T j (ati ls j) = k := ⟨(stepI W T j (ati ls j)).toNat, by omega⟩
  rw [hk] at g6 sb
  have hb : backI (ati ls j) = 1 ∨ backI (ati ls j) = 2 := by unfold backI; omega
  refine ⟨k, hk, domK_mem.2 ⟨by omega, by omega⟩, by rw [g6]; exact sb.1⟩

end Go.Proofs.Dev

namespace Go.Proofs.Dev
set_option linter.unusedSimpArgs false

def cellK (cs : List Bool) : List Nat := (List.range cs.length).filter fun k : Nat => atb cs k
def bareK (cs : List Bool) (ls : List Int) : List Nat := (List.range cs.length).filter fun k : Nat => atb cs k && decide (ati ls k = 0)
def toK (W T : Int) (ls : List Int) : List Nat := (domK ls).map fun k : Nat => (stepI W T k (ati ls k)).toNat

theorem manyOf_filter (cs : List Bool) : ∀ n, n ≤ cs.length → manyOf (cs.take n) = ((List.range n).filter fun k : Nat => atb cs k).length
  | 0, _ => by simp [manyOf]
  | n + 1, h => by
    rw [manyOf_take cs n (by omega), manyOf_filter cs n (by omega), List.range_succ, List.filter_append, List.length_append]
    congr 1
    by_cases hc : atb cs n = true <;> simp [hc]
theorem cellK_length (cs : List Bool) : (cellK cs).length = manyOf cs := by
  have := manyOf_filter cs cs.length (Nat.le_refl _)
  rw [List.take_length] at this
  exact this.symm

theorem range_nodup (n : Nat) : (List.range n).Nodup := List.nodup_range
theorem domK_nodup (ls : List Int) : (domK ls).Nodup := (range_nodup _).filter _

theorem nodup_map_on {α β : Type} {f : α → β} : ∀ {l : List α}, l.Nodup → (∀ x ∈ l, ∀ y ∈ l, f x = f y → x = y) → (l.map f).Nodup
  | [], _, _ => by simp
  | a :: l, hn, h => by
    rw [List.nodup_cons] at hn
    rw [List.map_cons, List.nodup_cons]
    refine ⟨?_, nodup_map_on hn.2 fun x hx y hy => h x (by simp [hx]) y (by simp [hy])⟩
    intro hm
    obtain ⟨y, hy, e⟩ := List.mem_map.1 hm
    have := h y (by simp [hy]) a (by simp) e
    subst this
    exact hn.1 hy

theorem nodup_append_of {α : Type} : ∀ {l m : List α}, l.Nodup → m.Nodup → (∀ x ∈ l, x ∉ m) → (l ++ m).Nodup
  | [], m, _, hm, _ => hm
  | a :: l, m, hl, hm, h => by
    rw [List.nodup_cons] at hl
    rw [List.cons_append, List.nodup_cons]
    refine ⟨?_, nodup_append_of hl.2 hm fun x hx => h x (by simp [hx])⟩
    intro hx
    rcases List.mem_append.1 hx with h1 | h1
    · exact hl.1 h1
    · exact h a (by simp) h1

theorem nodup_le' {l m : List Nat} (hn : l.Nodup) (h : ∀ x ∈ l, x ∈ m) : l.length ≤ m.length := by
  have h1 : (l.map Int.ofNat).Nodup := nodup_map_on hn fun x _ y _ e => by simp at e; omega
  have := nodup_le (m := m.map Int.ofNat) h1 (by
    intro x hx
    obtain ⟨y, hy, rfl⟩ := List.mem_map.1 hx
    exact List.mem_map.2 ⟨y, h y hy, rfl⟩)
  simpa using this

theorem domK_length (ls : List Int) : (domK ls).length = domN ls := by
  have h1 := pairs_domN 1 1 [] ls
  rw [pairs_map, List.length_map] at h1
  exact h1

/-- Every cell of the region is one of a domino or bare. -/
theorem cells_count {W T : Int} {cs : List Bool} {ls : List Int} (hr : regB W T cs = true) (hy : laysB W T cs ls = true) : manyOf cs = 2 * domN ls + (bareK cs ls).length := by
  have hl := lays_len hy
  have to_mem : ∀ t, t ∈ toK W T ls ↔ ∃ k, k ∈ domK ls ∧ (stepI W T k (ati ls k)).toNat = t := by intro t; simp [toK]
  have hto : (toK W T ls).Nodup := by
    refine nodup_map_on (domK_nodup ls) ?_
    intro x hx y hy2 e
    obtain ⟨t, e1, _, _, _, _, _, _, b1⟩ := dom_cells hr hy hx
    obtain ⟨s, e2, _, _, _, _, _, _, b2⟩ := dom_cells hr hy hy2
    rw [e1, e2] at e
    have : t = s := by simpa using e
    subst this
    omega
  have hback : ∀ t, t ∈ toK W T ls → t < cs.length ∧ atb cs t = true ∧ 3 ≤ ati ls t := by
    intro t ht
    obtain ⟨k, hk, e⟩ := (to_mem t).1 ht
    obtain ⟨s, e1, h1, _, _, _, h5, h6, _⟩ := dom_cells hr hy hk
    rw [e1] at e
    have : s = t := by simpa using e
    subst this
    refine ⟨h1, h5, ?_⟩
    rw [h6]
    have := (domK_mem.1 hk).2
    unfold backI; omega
  have hbare : ∀ k, k ∈ bareK cs ls ↔ k < cs.length ∧ atb cs k = true ∧ ati ls k = 0 := by intro k; simp [bareK, and_assoc]
  have hcell : ∀ k, k ∈ cellK cs ↔ k < cs.length ∧ atb cs k = true := by intro k; simp [cellK]
  have hnd : (domK ls ++ (toK W T ls ++ bareK cs ls)).Nodup := by
    refine nodup_append_of (domK_nodup ls) (nodup_append_of hto ((range_nodup _).filter _) ?_) ?_
    · intro x hx hb
      have h1 := (hback x hx).2.2
      have h2 := ((hbare x).1 hb).2.2
      omega
    · intro x hx hm
      have h0 := (domK_mem.1 hx).2
      rcases List.mem_append.1 hm with h1 | h1
      · have := (hback x h1).2.2; omega
      · have := ((hbare x).1 h1).2.2; omega
  have hle := nodup_le' (m := cellK cs) hnd (by
    intro x hx
    rw [hcell]
    rcases List.mem_append.1 hx with h1 | h1
    · obtain ⟨t, _, _, h2, _, h3, _⟩ := dom_cells hr hy h1
      exact ⟨h2, h3⟩
    · rcases List.mem_append.1 h1 with h2 | h2
      · exact ⟨(hback x h2).1, (hback x h2).2.1⟩
      · exact ⟨((hbare x).1 h2).1, ((hbare x).1 h2).2.1⟩)
  have hge := nodup_le' (l := cellK cs) (m := domK ls ++ (toK W T ls ++ bareK cs ls)) ((range_nodup _).filter _) (by
    intro x hx
    obtain ⟨h1, h2⟩ := (hcell x).1 hx
    rw [List.mem_append, List.mem_append]
    by_cases hz : ati ls x = 0
    · exact .inr (.inr ((hbare x).2 ⟨h1, h2, hz⟩))
    obtain ⟨v1, v4, _⟩ := lays_at hy (show x < ls.length by omega) hz
    by_cases hd : ati ls x = 1 ∨ ati ls x = 2
    · exact .inl (domK_mem.2 ⟨by omega, hd⟩)
    obtain ⟨k, _, hk, e⟩ := back_cells hr hy (show x < ls.length by omega) (by omega)
    exact .inr (.inl ((to_mem x).2 ⟨k, hk, by rw [e]; simp⟩)))
  simp only [List.length_append, cellK_length, domK_length, toK, List.length_map] at hle hge
  omega

theorem bareK_full {cs : List Bool} {ls : List Int} : (bareK cs ls).length = 0 ↔ fullB cs ls = true := by
  rw [List.length_eq_zero_iff]
  simp only [bareK, List.filter_eq_nil_iff, List.mem_range, fullB, allB_iff, fullAt]
  constructor
  · intro h k hk
    have := h k hk
    cases hc : atb cs k <;> simp [hc] at this ⊢
    exact this
  · intro h k hk
    have := h k hk
    cases hc : atb cs k <;> simp [hc] at this ⊢
    exact this

end Go.Proofs.Dev

namespace Go.Proofs.Dev
set_option linter.unusedSimpArgs false

def sameD (ds : List Int) : List Int := ds.map fun d => min d 0
@[simp] theorem sameD_length (ds : List Int) : (sameD ds).length = ds.length := by simp [sameD]
theorem sameD_at (ds : List Int) (k : Int) (hk : k.toNat < ds.length) : ati (sameD ds) k = min (ati ds k) 0 := by
  simp [ati, sameD, List.getD_eq_getElem?_getD, List.getElem?_map, List.getElem?_eq_getElem hk]

theorem digsB_same {cs : List Bool} {ds : List Int} (h : digsB cs ds = true) : digsB cs (sameD ds) = true := by
  simp only [digsB, Bool.and_eq_true, decide_eq_true_eq, allB_iff] at h ⊢
  obtain ⟨h1, h2⟩ := h
  refine ⟨by simpa using h1, fun k hk => ?_⟩
  rw [sameD_length] at hk
  have := h2 k hk
  have e := sameD_at ds k (by simpa using hk)
  simp only [digAt, e] at this ⊢
  cases hc : atb cs k with
  | true =>
    simp only [hc, if_true, decide_eq_true_eq] at this ⊢
    omega
  | false =>
    simp only [hc, Bool.false_eq_true, if_false, decide_eq_true_eq] at this ⊢
    omega

theorem pairs_zero {W T : Int} {cs : List Bool} {ds ls : List Int} (hr : regB W T cs = true) (hd : digsB cs ds = true) (hy : laysB W T cs ls = true) : ∀ x ∈ pairsI W T (sameD ds) ls, x = 0 := by
  obtain ⟨w1, w2, t1, t2, l1, _⟩ := regB_W hr
  have hl := lays_len hy
  have hdl : ds.length = cs.length := by simp only [digsB, Bool.and_eq_true, decide_eq_true_eq] at hd; exact hd.1
  intro x hx
  simp only [pairsI, pairsTo, List.mem_flatMap, List.mem_range] at hx
  obtain ⟨k, hk, hx⟩ := hx
  split at hx
  · rename_i hw
    rw [List.mem_singleton] at hx
    subst hx
    obtain ⟨v1, v4, g3, g4, g5, g6⟩ := lays_at hy hk (by omega)
    have sb := step_back (W := W) (T := T) (k := k) (way := ati ls k) w1 (by omega) (by omega) g4
    obtain ⟨t, ht⟩ : ∃ t : Nat, stepI W T k (ati ls k) = t := ⟨(stepI W T k (ati ls k)).toNat, by omega⟩
    rw [ht] at g5 sb ⊢
    have d1 := digs_at hd (show k < cs.length by omega) g3
    have d2 := digs_at hd (show t < cs.length by omega) g5
    rw [sameD_at ds k (by simp; omega), sameD_at ds t (by simp; omega)]
    simp only [pairI]
    omega
  · cases hx

theorem two_zero : ∀ {l : List Int}, 2 ≤ l.length → (∀ x ∈ l, x = 0) → onceB l = false
  | [], h, _ => by simp at h
  | [_], h, _ => by simp at h
  | a :: b :: l, _, h => by
    have h1 := h a (by simp)
    have h2 := h b (by simp)
    subst h1 h2
    simp [onceB]

/-- With the same number everywhere there is no solution for more than two cells. -/
theorem sols_same {W T : Int} {cs : List Bool} {ds : List Int} (hr : regB W T cs = true) (hd : digsB cs ds = true) (h2 : 2 < manyOf cs) : solsI W T cs (sameD ds) = [] := by
  have hv : (regB W T cs && digsB cs (sameD ds)) = true := by rw [hr, digsB_same hd]; rfl
  rw [sols_fair hv, List.filter_eq_nil_iff]
  intro t ht ho
  have hm : t ∈ allT W T cs cs.length (noneL cs) := by
    unfold tilesI at ht
    rwa [if_pos hr] at ht
  have hz : zeros (noneL cs) ≤ cs.length := by have := zeros_le (noneL cs); simp [noneL] at this ⊢; omega
  obtain ⟨hy, hf⟩ := allT_full hr cs.length (noneL cs) hz (lays_none W T cs) t hm
  have hc := cells_count hr hy
  have hb := bareK_full.2 hf
  have hlen := pairs_domN W T (sameD ds) t
  rw [two_zero (by rw [hlen]; omega) (pairs_zero hr hd hy)] at ho
  cases ho
end Go.Proofs.Dev

namespace Go.Proofs.Dev
set_option linter.unusedSimpArgs false
set_option maxRecDepth 100000

theorem s_impl_SolutionsAllG (W T : Int) (cs : List Bool) (ds : List Int) (hb : cs.length < 2 ^ 40) (hd : ds.length < 2 ^ 40) :
    SoundAt Try.prog n_impl_SolutionsAll [.agg [.v (.int .i64 W), .v (.int .i64 T), .sl 1 1 (bools cs)], .sl 1 1 (ints ds)] (.sl 0 1 (sls 0 (solsI W T cs ds))) [.bot, .bot] := by
  have h := SoundAt.frozen (n := 2) (fun C S us hr => noOL_ok _ S us rfl hr) (s_impl_SolutionsAll W T cs ds hb hd)
  simpa [vw] using h

theorem sols_le {W T : Int} {cs : List Bool} {ds : List Int} (h : (regB W T cs && digsB cs ds) = true) : (solsI W T cs ds).length ≤ (tilesI W T cs).length := by
  rw [sols_fair h]
  exact List.length_filter_le _ _

theorem ints_same_succ {ds : List Int} {i : Nat} (h : i < ds.length) : ints ((sameD ds).take (i + 1)) = ints ((sameD ds).take i) ++ [.v (.int .i64 (min (ati ds i) 0))] := by
  have h' : i < (sameD ds).length := by simpa using h
  have e : (sameD ds)[i] = min (ati ds i) 0 := by
    simp [sameD, ati, List.getD_eq_getElem?_getD, List.getElem?_eq_getElem h]
  rw [List.take_succ_eq_append_getElem h', ints_append, e]
  rfl

set_option maxHeartbeats 1000000 in
theorem l_FnSolutionsMany (bs : List Int) (hB : Byt bs) : SoundAt Try.prog n_laws_FnSolutionsMany [.sl 0 1 (u8s bs)] (.v (.bool true)) [.bot] := by
  refine fn_ok (md := md5) (ms := [false]) k_laws_FnSolutionsMany (by simp) ?_
  simp [c_laws_FnSolutionsMany]
  refine fun hsz => ?_
  have hb : bs.length ≤ 2 ^ 60 := by omega
  refine call_onK (s_spec_DrawSolutionsMany bs hb hB) [] (by simp) (by simp) (by simp) ?_
  rintro _ _ ⟨W, T, cs, ds, rfl, hcs, hds, rfl⟩
  have one := s_impl_SolutionsMany W T cs ds (by omega) (by omega)
  have two := s_spec_SolutionsMany W T cs ds (by omega) (by omega)
  have three := s_impl_SolutionsAllG W T cs ds (by omega) (by omega)
  have four := s_impl_TilingsMany W T cs (by omega)
  have five := s_impl_CellsMany W T cs (by omega)
  have six := s_impl_SolutionsMany W T cs (sameD ds) (by omega) (by simp; omega)
  have hsl := sols_length (W := W) (T := T) (cs := cs) (ds := ds)
  have htl := tiles_length (W := W) (T := T) (cs := cs)
  cases hv : (regB W T cs && digsB cs ds) with
  | false =>
    have e : solsN W T cs ds = -1 := by rw [solsN, if_neg (by simp [hv])]
    rw [e] at one two
    simp [regA]
    refine call_on one ?_
    simp
    refine call_on two ?_
    simp
    refine call_on s_laws_alive ?_
    simp
  | true =>
    have e : solsN W T cs ds = (solsI W T cs ds).length := by rw [solsN, if_pos hv]
    have hle := sols_le hv
    have hr : regB W T cs = true := by simp only [Bool.and_eq_true] at hv; exact hv.1
    have hdg : digsB cs ds = true := by simp only [Bool.and_eq_true] at hv; exact hv.2
    have hv2 : (regB W T cs && digsB cs (sameD ds)) = true := by rw [hr, digsB_same hdg]; rfl
    have e2 : solsN W T cs (sameD ds) = (solsI W T cs (sameD ds)).length := by rw [solsN, if_pos hv2]
    have h2 := sols_same hr hdg
    rw [e] at one two
    rw [if_pos hr] at four five
    rw [e2] at six
    generalize solsI W T cs ds = ss at *
    generalize tilesI W T cs = ts at *
    have hmn : manyOf cs < 2 ^ 40 := by have := (regB_W hr).2.2.2.2.2; omega
    have h0 : ¬ (ss.length : Int) < 0 := by omega
    simp [regA]
    refine call_on one ?_
    simp
    refine call_on two ?_
    simp [h0]
    refine loop_by (fun m E H => ∃ i : Nat, m = ds.length - i ∧ i ≤ ds.length ∧ E = [(3, .lp 0 0 0 0), (4, .ls 1 1 0 ds.length), (5, .v (.int .i64 ss.length)), (6, .ls 1 2 0 i), (7, .v (.int .i64 i))] ∧
      H = [some (.box [.v (.int .i64 W), .v (.int .i64 T), .ls 1 3 0 cs.length]), some (.arr 1 (ints ds)), some (.arr 1 (ints ((sameD ds).take i))), some (.arr 1 (bools cs))]) ds.length ⟨0, by simp⟩ ?_
    rintro J hJ m E H ⟨i, rfl, hi, rfl, rfl⟩
    by_cases h : i < ds.length
    · have hs := ints_same_succ h
      have hl : ((sameD ds).take i).length = i := by rw [List.length_take, sameD_length]; omega
      have nx := hJ (ds.length - (i + 1)) _ _ ⟨i + 1, rfl, h, rfl, rfl⟩
      rw [hs] at nx
      simp only [Int.natCast_add, Int.cast_ofNat_Int] at nx
      have hmin : (if 0 < ati ds i then 0 else ati ds i) = min (ati ds i) 0 := by split <;> omega
      rw [← hmin] at nx
      simp [c_laws_FnSolutionsMany_L0, h, hl]
      exact ⟨⟨by omega, by omega⟩, ⟨by omega, by omega⟩, _, by omega, nx⟩
    · have : i = ds.length := by omega
      subst this
      have hl : ((sameD ds).take ds.length) = sameD ds := List.take_of_length_le (by simp)
      have htk : (ints (sameD ds)).take ds.length = ints (sameD ds) := List.take_of_length_le (by simp)
      simp [c_laws_FnSolutionsMany_L0, hl]
      refine call_on three ?_
      simp
      refine call_on four ?_
      simp [hle]
      refine call_on five ?_
      by_cases hm2 : manyOf cs ≤ 2
      · have hm3 : (manyOf cs : Int) ≤ 2 := by omega
        simp [hm2, hm3]
      · have hm3 : ¬ (manyOf cs : Int) ≤ 2 := by omega
        rw [h2 (by omega)] at six
        simp [hm2, hm3]
        refine call_on six ?_
        simp [htk]
end Go.Proofs.Dev
