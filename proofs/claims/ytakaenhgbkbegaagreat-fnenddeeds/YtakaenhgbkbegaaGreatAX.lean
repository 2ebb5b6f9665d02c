/- Contracts of the functions of the program over slots and rows, each proved against the program itself; no condition beyond those that each theorem names. -/
import Derived.Test.YtakaenhgbkbegaaGreatAQ
import Derived.Test.YtakaenhgbkbegaaGreatAW
import Derived.Test.YtakaenhgbkbegaaGreatAO
import Derived.Test.YtakaenhgbkbegaaGreatAH
import Derived.Test.YtakaenhgbkbegaaGreatAL
import Derived.Test.YtakaenhgbkbegaaGreatAU

set_option linter.unusedSimpArgs false
set_option linter.unusedVariables false

namespace Go.Proofs.Dev
set_option linter.unusedSimpArgs false

def domK (ls : List Int) : List Nat := (List.range ls.length).filter fun k => decide (ati ls k = 1 ∨ ati ls k = 2)
theorem domK_mem {ls : List Int} {k : Nat} : k ∈ domK ls ↔ k < ls.length ∧ (ati ls k = 1 ∨ ati ls k = 2) := by simp [domK]
/-! Made puzzles. -/
/-- The domino of a cell, seen from behind. -/
theorem back_cells {W T : Int} {cs : List Bool} {ls : List Int} {j : Nat} (hr : regB W T cs = true) (hy : laysB W T cs ls = true) (hj : j < ls.length) (hw : 3 ≤ ati ls j) :
    ∃ k : Nat, stepI W T j (ati ls j) = k ∧ k ∈ domK ls ∧ stepI W T k (ati ls k) = j := by
  obtain ⟨w1, w2, t1, t2, l1, _⟩ := regB_W hr
  have hl := lays_len hy
  obtain ⟨v1, v4, g3, g4, g5, g6⟩ := lays_at hy hj (by omega)
  have sb := step_back (W := W) (T := T) (k := j) (way := ati ls j) w1 (by omega) (by omega) g4
  obtain ⟨k, hk⟩ : ∃ k : Nat, stepI W T j (ati ls j) = k := ⟨(stepI W T j (ati ls j)).toNat, by omega⟩
  rw [hk] at g6 sb
  have hb : backI (ati ls j) = 1 ∨ backI (ati ls j) = 2 := by unfold backI; omega
  refine ⟨k, hk, domK_mem.2 ⟨by omega, by omega⟩, by rw [g6]; exact sb.1⟩

end Go.Proofs.Dev

namespace Go.Proofs.Dev
set_option linter.unusedSimpArgs false

end Go.Proofs.Dev

namespace Go.Proofs.Dev
set_option linter.unusedSimpArgs false

/-- Deeds one after the other, all of which are done. -/
def allDo (W T : Int) (cs : List Bool) (ds : List Int) : List Int → List (List Int) → List (Int × Int × Int) → Option (List Int × List (List Int))
  | ls, ps, [] => some (ls, ps)
  | ls, ps, d :: xs => if (doI W T cs ds ls ps d.1 d.2.1 d.2.2).1 = true then allDo W T cs ds (doI W T cs ds ls ps d.1 d.2.1 d.2.2).2.1 (doI W T cs ds ls ps d.1 d.2.1 d.2.2).2.2 xs else none

theorem allDo_append (W T : Int) (cs : List Bool) (ds : List Int) : ∀ (xs ys : List (Int × Int × Int)) (ls : List Int) (ps : List (List Int)),
    allDo W T cs ds ls ps (xs ++ ys) = (allDo W T cs ds ls ps xs).bind fun r => allDo W T cs ds r.1 r.2 ys
  | [], ys, ls, ps => rfl
  | x :: xs, ys, ls, ps => by
    rw [List.cons_append, allDo, allDo]
    split
    · exact allDo_append W T cs ds xs ys _ _
    · rfl

theorem allDo_one {W T : Int} {cs : List Bool} {ds ls l2 : List Int} {ps p2 : List (List Int)} {k s w : Int} (h : doI W T cs ds ls ps k s w = (true, l2, p2)) : allDo W T cs ds ls ps [(k, s, w)] = some (l2, p2) := by
  simp [allDo, h]

/-- Up to each deed. -/
theorem allDo_take {W T : Int} {cs : List Bool} {ds : List Int} {xs : List (Int × Int × Int)} {ls l2 : List Int} {ps p2 : List (List Int)} (h : allDo W T cs ds ls ps xs = some (l2, p2)) (hv : bookB W T cs ds ls ps = true) (n : Nat) :
    ∃ l p, allDo W T cs ds ls ps (xs.take n) = some (l, p) ∧ bookB W T cs ds l p = true ∧ ∀ h : n < xs.length, ∃ l3 p3, doI W T cs ds l p (xs[n]).1 (xs[n]).2.1 (xs[n]).2.2 = (true, l3, p3) ∧ allDo W T cs ds ls ps (xs.take (n + 1)) = some (l3, p3) := by
  induction n with
  | zero =>
    refine ⟨ls, ps, rfl, hv, fun h0 => ?_⟩
    cases xs with
    | nil => simp at h0
    | cons x xs =>
      simp only [allDo] at h
      split at h
      · rename_i hd
        refine ⟨(doI W T cs ds ls ps x.1 x.2.1 x.2.2).2.1, (doI W T cs ds ls ps x.1 x.2.1 x.2.2).2.2, Prod.ext hd rfl, ?_⟩
        simp only [Nat.zero_add, List.take_succ_cons, List.take_zero, allDo]
        rw [if_pos hd]
      · cases h
  | succ n ih =>
    obtain ⟨l, p, e, hv2, hs⟩ := ih
    by_cases hn : n < xs.length
    · obtain ⟨l3, p3, e3, e4⟩ := hs hn
      have hv3 := do_ok (xs[n]).1 (xs[n]).2.1 (xs[n]).2.2 hv2
      rw [e3] at hv3
      refine ⟨l3, p3, e4, hv3, fun h1 => ?_⟩
      have hx : xs = xs.take (n + 1) ++ xs.drop (n + 1) := (List.take_append_drop _ _).symm
      rw [hx, allDo_append, e4] at h
      simp only [Option.bind_some] at h
      rw [List.drop_eq_getElem_cons h1] at h
      simp only [allDo] at h
      split at h
      · rename_i hd
        refine ⟨(doI W T cs ds l3 p3 xs[n + 1].1 xs[n + 1].2.1 xs[n + 1].2.2).2.1, (doI W T cs ds l3 p3 xs[n + 1].1 xs[n + 1].2.1 xs[n + 1].2.2).2.2, Prod.ext hd rfl, ?_⟩
        rw [List.take_succ_eq_append_getElem h1, allDo_append, e4]
        simp only [Option.bind_some, allDo]
        rw [if_pos hd]
      · cases h
    · refine ⟨l, p, ?_, hv2, fun h1 => by omega⟩
      rw [List.take_of_length_le (by omega)]
      rw [List.take_of_length_le (by omega)] at e
      exact e

theorem doI_lift {W T : Int} {cs : List Bool} {ds ls : List Int} {ps : List (List Int)} {n : Nat} (hf : fairB W T cs ds ls = true) (hn : n < ls.length) (hz : ati ls n ≠ 0) : doI W T cs ds ls ps 1 n 0 = (true, liftI W T ls n, bkPast ls ps) := by
  have h1 : liftHas ls n = true := by simp [liftHas, hz, hn]
  have h2 := fair_lift (k := n) hf hn hz
  have h3 : needB (1, (n : Int), 0) = true := by simp [needB]
  simp [doI, doRes, h3, nextB, nextL, h1, h2]
theorem doI_lay {W T : Int} {cs : List Bool} {ds ls : List Int} {ps : List (List Int)} {n : Nat} {w : Int} (hb : freeB W T cs ls n w = true) (hf : fairB W T cs ds (layI W T ls n w) = true) : doI W T cs ds ls ps 0 n w = (true, layI W T ls n w, bkPast ls ps) := by
  have h3 : needB (0, (n : Int), w) = true := by simp [needB]
  simp [doI, doRes, h3, nextB, nextL, hb, layOneL, hf]

/-- The first half: what is not in the solution is lifted. -/
def P1 (ls ws A : List Int) (n : Nat) : Prop := hasB A ls = true ∧ ∀ j : Nat, j < ls.length → (ati ls j = 1 ∨ ati ls j = 2) → ati A j = if j < n ∧ ati ws j ≠ ati ls j then 0 else ati ls j

theorem lift_phase {W T : Int} {cs : List Bool} {ds ls ws : List Int} {ps : List (List Int)} (hv : bookB W T cs ds ls ps = true) : ∀ n, n ≤ ls.length →
    ∃ A p, allDo W T cs ds ls ps (liftsTo ls ws n) = some (A, p) ∧ bookB W T cs ds A p = true ∧ P1 ls ws A n
  | 0, _ => ⟨ls, ps, rfl, hv, hasB_iff.2 fun j _ => .inr rfl, fun j _ _ => by simp⟩
  | n + 1, hn => by
    obtain ⟨A, p, e, hA, h1, h2⟩ := lift_phase (ws := ws) hv n (by omega)
    obtain ⟨hf, h20, hpf⟩ := book_parts hA
    obtain ⟨hr, hd, hy, ho⟩ := fair_parts hf
    have hAl := lays_len hy
    have hll := lays_len (fair_parts (book_parts hv).1).2.2.1
    rw [liftsTo_succ, allDo_append, e]
    simp only [Option.bind_some]
    by_cases hc : (ati ls n = 1 ∨ ati ls n = 2) ∧ ati ws n ≠ ati ls n
    · have el : liftD ls ws n = [(1, (n : Int), 0)] := by unfold liftD; rw [if_pos hc]
      have hAn := h2 n (by omega) hc.1
      rw [if_neg (fun h => by omega)] at hAn
      have hz : ati A n ≠ 0 := by rw [hAn]; omega
      have hd1 := doI_lift (ps := p) hf (show n < A.length by omega) hz
      have hok := do_ok (ps := p) 1 n 0 hA
      rw [hd1] at hok
      obtain ⟨t, ht, htl, htn, hat⟩ := lift_at hr hy (show n < A.length by omega) hz
      obtain ⟨_, _, _, _, _, g6⟩ := lays_at hy (show n < A.length by omega) hz
      rw [ht] at g6
      rw [el]
      refine ⟨_, _, allDo_one hd1, hok, has_trans (by rw [liftI_length]) (lift_has hr hy (show n < A.length by omega) hz) h1, fun j hj hjd => ?_⟩
      rw [hat j]
      by_cases e1 : j = n
      · rw [if_pos e1, if_pos ⟨by omega, by rw [e1]; exact hc.2⟩]
      rw [if_neg e1]
      have hjA := h2 j hj hjd
      have e2 : j ≠ t := by
        intro e2
        rw [← e2, hjA] at g6
        have : backI (ati A n) = 3 ∨ backI (ati A n) = 4 := by rw [hAn]; unfold backI; omega
        split at g6 <;> omega
      rw [if_neg e2, hjA]
      by_cases e3 : j < n ∧ ati ws j ≠ ati ls j
      · rw [if_pos e3, if_pos ⟨by omega, e3.2⟩]
      · rw [if_neg e3, if_neg (fun h => e3 ⟨by omega, h.2⟩)]
    · have el : liftD ls ws n = [] := by unfold liftD; rw [if_neg hc]
      rw [el]
      refine ⟨A, p, rfl, hA, h1, fun j hj hjd => ?_⟩
      rw [h2 j hj hjd]
      by_cases e3 : j < n ∧ ati ws j ≠ ati ls j
      · rw [if_pos e3, if_pos ⟨by omega, e3.2⟩]
      · rw [if_neg e3, if_neg]
        rintro ⟨h3, h4⟩
        by_cases e4 : j = n
        · subst e4; exact hc ⟨hjd, h4⟩
        · exact e3 ⟨by omega, h4⟩

/-- A list with dominoes of another one alone, as told by first cells. -/
theorem has_of_first {W T : Int} {cs : List Bool} {A ws : List Int} (hr : regB W T cs = true) (hA : laysB W T cs A = true) (hw : laysB W T cs ws = true) (h : ∀ j : Nat, j < A.length → (ati A j = 1 ∨ ati A j = 2) → ati ws j = ati A j) : hasB A ws = true := by
  have hAl := lays_len hA
  have hwl := lays_len hw
  rw [hasB_iff]
  intro j hj
  by_cases hz : ati A j = 0
  · exact .inl hz
  right
  obtain ⟨v1, v4, _⟩ := lays_at hA hj hz
  by_cases hd : ati A j = 1 ∨ ati A j = 2
  · exact h j hj hd
  obtain ⟨k, e1, hk, e2⟩ := back_cells hr hA hj (by omega)
  obtain ⟨hk1, hk2⟩ := domK_mem.1 hk
  have hwk := h k hk1 hk2
  obtain ⟨_, _, _, _, _, g6⟩ := lays_at hA hk1 (by omega)
  obtain ⟨_, _, _, _, _, q6⟩ := lays_at hw (show k < ws.length by omega) (by omega)
  rw [e2] at g6
  rw [hwk, e2] at q6
  rw [q6, g6]

def P2 (ls ws C : List Int) (n : Nat) : Prop := hasB C ws = true ∧ ∀ j : Nat, j < ws.length → (ati ws j = 1 ∨ ati ws j = 2) → ati C j = if j < n ∨ ati ls j = ati ws j then ati ws j else 0

theorem P1_P2 {W T : Int} {cs : List Bool} {ls ws A : List Int} (hr : regB W T cs = true) (hA : laysB W T cs A = true) (hl : laysB W T cs ls = true) (hw : laysB W T cs ws = true) (h : P1 ls ws A ls.length) : P2 ls ws A 0 := by
  obtain ⟨h1, h2⟩ := h
  have hAl := lays_len hA
  have hll := lays_len hl
  have hwl := lays_len hw
  have hA1 := hasB_iff.1 h1
  have hhas : hasB A ws = true := by
    refine has_of_first hr hA hw fun j hj hd => ?_
    have e := (hA1 j hj).resolve_left (by omega)
    have := h2 j (by omega) (by rw [e]; exact hd)
    by_cases hne : ati ws j = ati ls j
    · rw [hne, e]
    · rw [if_pos ⟨by omega, hne⟩] at this; omega
  refine ⟨hhas, fun j hj hd => ?_⟩
  by_cases he : ati ls j = ati ws j
  · rw [if_pos (.inr he)]
    have := h2 j (by omega) (by rw [he]; exact hd)
    rw [if_neg (fun h => h.2 he.symm)] at this
    rw [this, he]
  · rw [if_neg (by omega)]
    rcases hasB_iff.1 hhas j (by omega) with h0 | h0
    · exact h0
    · rcases hA1 j (by omega) with h3 | h3
      · exact h3
      · exfalso; rw [h0] at he; exact he h3

theorem lay_phase {W T : Int} {cs : List Bool} {ds ls ws A : List Int} {ps : List (List Int)} (hA : bookB W T cs ds A ps = true) (hw : fairB W T cs ds ws = true) (h0 : P2 ls ws A 0) : ∀ n, n ≤ ws.length →
    ∃ C p, allDo W T cs ds A ps (laysTo ls ws n) = some (C, p) ∧ bookB W T cs ds C p = true ∧ P2 ls ws C n
  | 0, _ => ⟨A, ps, rfl, hA, h0⟩
  | n + 1, hn => by
    obtain ⟨C, p, e, hC, h1, h2⟩ := lay_phase hA hw h0 n (by omega)
    obtain ⟨hf, h20, hpf⟩ := book_parts hC
    obtain ⟨hr, hd, hy, ho⟩ := fair_parts hf
    obtain ⟨_, _, hwy, hwo⟩ := fair_parts hw
    obtain ⟨w1, w2, t1, t2, l1, _⟩ := regB_W hr
    have hCl := lays_len hy
    have hwl := lays_len hwy
    rw [laysTo_succ, allDo_append, e]
    simp only [Option.bind_some]
    by_cases hc : (ati ws n = 1 ∨ ati ws n = 2) ∧ ati ws n ≠ ati ls n
    · have el : layD ls ws n = [(0, (n : Int), ati ws n)] := by unfold layD; rw [if_pos hc]
      have hCn := h2 n (by omega) hc.1
      rw [if_neg (by omega)] at hCn
      obtain ⟨_, _, g3, g4, g5, g6⟩ := lays_at hwy (show n < ws.length by omega) (by omega)
      obtain ⟨b1, b2, b3, b4, b5⟩ := step_back (T := T) (k := n) (way := ati ws n) w1 (by omega) (by omega) g4
      obtain ⟨k1, k2, k3⟩ := backI_back b2 b3
      obtain ⟨t, ht⟩ : ∃ t : Nat, stepI W T n (ati ws n) = t := ⟨(stepI W T n (ati ws n)).toNat, by omega⟩
      rw [ht] at g4 g5 g6 b1 b4 b5
      have hCt : ati C t = 0 := by
        rcases hasB_iff.1 h1 t (by omega) with h | h
        · exact h
        · exfalso
          have hne : ati C t ≠ 0 := by rw [← h, g6]; omega
          obtain ⟨_, _, _, _, _, q6⟩ := lays_at hy (show t < C.length by omega) hne
          rw [← h, g6, b1, hCn, k1] at q6
          omega
      have hfr : freeB W T cs C n (ati ws n) = true := free_of (by omega) (by omega) ht g4 g3 g5 hCn hCt
      obtain ⟨m1, m2, m3⟩ := lay_atI hr hy hfr ht
      have hhas : hasB (layI W T C n (ati ws n)) ws = true := by
        rw [hasB_iff]
        intro j hj
        rw [m3 j (by omega)]
        by_cases e1 : (j : Int) = t
        · rw [if_pos e1, e1, g6]; exact .inr rfl
        rw [if_neg e1]
        by_cases e2 : (j : Int) = n
        · rw [if_pos e2, e2]; exact .inr rfl
        rw [if_neg e2]
        exact hasB_iff.1 h1 j (by omega)
      have hfair : fairB W T cs ds (layI W T C n (ati ws n)) = true := fair_of hr hd m1 (once_sub (has_pairs (by rw [m2]; omega) hhas) hwo)
      have hd1 := doI_lay (ps := p) hfr hfair
      have hok := do_ok (ps := p) 0 n (ati ws n) hC
      rw [hd1] at hok
      rw [el]
      refine ⟨_, _, allDo_one hd1, hok, hhas, fun j hj hjd => ?_⟩
      rw [m3 j (by omega)]
      have e1 : (j : Int) ≠ t := by
        intro e1
        rw [e1, g6] at hjd
        have : backI (ati ws n) = 3 ∨ backI (ati ws n) = 4 := by unfold backI; omega
        omega
      rw [if_neg e1]
      by_cases e2 : (j : Int) = n
      · rw [if_pos e2, if_pos (by omega), e2]
      rw [if_neg e2, h2 j hj hjd]
      by_cases e3 : j < n ∨ ati ls j = ati ws j
      · rw [if_pos e3, if_pos (by omega)]
      · rw [if_neg e3, if_neg (by omega)]
    · have el : layD ls ws n = [] := by unfold layD; rw [if_neg hc]
      rw [el]
      refine ⟨C, p, rfl, hC, h1, fun j hj hjd => ?_⟩
      rw [h2 j hj hjd]
      by_cases e3 : j < n ∨ ati ls j = ati ws j
      · rw [if_pos e3, if_pos (by omega)]
      · rw [if_neg e3]
        by_cases e4 : j = n
        · subst e4
          exact absurd ⟨hjd, fun h => e3 (.inr h.symm)⟩ hc
        · rw [if_neg (by omega)]

/-- All deeds are done, and what is laid is the solution. -/
theorem end_all {W T : Int} {cs : List Bool} {ds ls ws : List Int} {ps : List (List Int)} (hv : bookB W T cs ds ls ps = true) (hw : fairB W T cs ds ws = true) :
    ∃ p, allDo W T cs ds ls ps (endT ls ws) = some (ws, p) ∧ bookB W T cs ds ws p = true := by
  obtain ⟨hr, hd, hy, ho⟩ := fair_parts (book_parts hv).1
  obtain ⟨_, _, hwy, hwo⟩ := fair_parts hw
  have hll := lays_len hy
  have hwl := lays_len hwy
  obtain ⟨A, p, e1, hA, h1⟩ := lift_phase (ws := ws) hv ls.length (Nat.le_refl _)
  have hAy := (fair_parts (book_parts hA).1).2.2.1
  obtain ⟨C, p2, e2, hC, h2, h3⟩ := lay_phase hA hw (P1_P2 hr hAy hy hwy h1) ws.length (Nat.le_refl _)
  have hCy := (fair_parts (book_parts hC).1).2.2.1
  have hCl := lays_len hCy
  have e : C = ws := by
    refine ext_ati (by omega) fun j hj => ?_
    by_cases hz : ati ws j = 0
    · rcases hasB_iff.1 h2 j hj with h | h
      · rw [h, hz]
      · exact h.symm
    by_cases hdj : ati ws j = 1 ∨ ati ws j = 2
    · rw [h3 j (by omega) hdj, if_pos (.inl (by omega))]
    obtain ⟨v1, v4, _⟩ := lays_at hwy (show j < ws.length by omega) hz
    obtain ⟨k, f1, hk, f2⟩ := back_cells hr hwy (show j < ws.length by omega) (by omega)
    obtain ⟨hk1, hk2⟩ := domK_mem.1 hk
    have hCk := h3 k hk1 hk2
    rw [if_pos (.inl hk1)] at hCk
    obtain ⟨_, _, _, _, _, g6⟩ := lays_at hwy hk1 (by omega)
    obtain ⟨_, _, _, _, _, q6⟩ := lays_at hCy (show k < C.length by omega) (by omega)
    rw [f2] at g6
    rw [hCk, f2] at q6
    rw [q6, g6]
  subst e
  refine ⟨p2, ?_, hC⟩
  unfold endT
  rw [show C.length = ls.length by omega] at *
  rw [allDo_append, e1]
  exact e2
end Go.Proofs.Dev

namespace Go.Proofs.Dev
set_option linter.unusedSimpArgs false
set_option maxRecDepth 100000

theorem s_spec_l20Book (bs : List Int) (p : Nat) (n : Int) (hb : bs.length ≤ 2000) (hB : Byt bs) (hp : p < 2 ^ 33) (hn0 : 0 ≤ n) (hn : n < 2 ^ 20) :
    SoundSet Tryz.prog n_spec_l20Book [rdA bs p, .v (.int .i64 n)] (bookSet bs p 1000) := by
  refine fn_okS (md := md8) (ms := [true, false]) k_spec_l20Book (by simp) ?_
  simp [c_spec_l20Book]
  refine call_onK (s_spec_l20Puzzle bs p 0 hb hB (by omega) (by omega) (by omega)) [0] (by simp) (by simp) (by simp) ?_
  rintro _ _ ⟨W, T, cs, ds, q, rfl, hcs, hds, hq, rfl⟩
  simp [regA]
  refine call_on (s_spec_BookNew W T cs ds (by omega) (by omega)) ?_
  obtain ⟨W2, T2, cs2, ds2, ls2, e, hk⟩ := new_ok W T cs ds
  rw [e]
  simp
  refine call_onK (s_spec_l20Rd_pick bs q 14 hb hB (by omega)) [0] (by simp) (by simp) (by simp) ?_
  rintro _ _ ⟨x, x0, x1, rfl, rfl⟩
  obtain ⟨m, rfl⟩ : ∃ m : Nat, x = m := ⟨x.toNat, by omega⟩
  simp
  refine book_L0 bs p (q + 1) n m W2 T2 cs2 ds2 ls2 [] hb hB (by omega) (by omega) (by omega) hk _ ?_
  intro q2 W T cs ds ls ps E hq2 hk e0 e1 e4 e7 e64
  obtain ⟨a1, a2, a3, a4, a5⟩ := bookOk_len hk
  have t1 : (oss ps).take ps.length = oss ps := List.take_of_length_le (by simp [oss])
  have fin : ∀ (W T : Int) (cs : List Bool) (ds ls : List Int) (ps : List (List Int)) (q3 : Nat), cs.length ≤ 37 → ds.length ≤ 38 → ls.length ≤ 38 → ps.length ≤ 21 → (∀ x ∈ ps, x.length ≤ 37) → q3 ≤ q2 + 5 → bookSet bs p 1000 (bkO W T cs ds ls ps) [rdA bs q3, .bot] :=
    fun W T cs ds ls ps q3 h1 h2 h3 h4 h5 h6 => ⟨W, T, cs, ds, ls, ps, q3, h1, h2, h3, h4, h5, by omega, rfl, rfl⟩
  have a5' : ∀ x ∈ ps, x.length ≤ 37 := fun x hx => by have := a5 x hx; omega
  simp [e0, e1]
  refine call_onK (s_spec_l20Rd_odd bs q2 n hb hB (by omega) (by omega)) [0] (by simp) (by simp) (by simp) ?_
  rintro _ _ ⟨o, q3, rfl, hq3, rfl⟩
  cases o with
  | false =>
    simp [get_purgeE, e0, e4, e7, e64]
    refine ⟨_, _, fin W T cs ds ls ps q3 (by omega) (by omega) (by omega) (by omega) a5' (by omega), ?_⟩
    simp [get_purgeE, e0, e1, e4, e7, e64, t1]
  | true =>
    simp [get_purgeE, e0, e4, e7, e64]
    refine call_onK (s_spec_l20Rd_pick bs q3 4 hb hB (by omega)) [0] (by simp) (by simp) (by simp) ?_
    rintro _ _ ⟨y, y0, y1, rfl, rfl⟩
    by_cases c0 : y = 0
    · have ea : ints ls ++ [.v (.int .i64 0)] = ints (ls ++ [0]) := by simp [ints]
      have t2 : (ints (ls ++ [0])).take (ls.length + 1) = ints (ls ++ [0]) := List.take_of_length_le (by simp)
      simp [c0, get_purgeE, e0, e4, e7, e64, ea]
      refine ⟨by omega, _, _, fin W T cs ds (ls ++ [0]) ps (q3 + 1) (by omega) (by omega) (by simp; omega) (by omega) a5' (by omega), ?_⟩
      simp [get_purgeE, e0, e1, e4, e7, e64, t1, t2]
    by_cases c1 : y = 1
    · have ea : oss ps ++ [.os 1 [.v (.int .i64 9)]] = oss (ps ++ [[9]]) := by simp [oss, ints]
      have t2 : (oss (ps ++ [[9]])).take (ps.length + 1) = oss (ps ++ [[9]]) := List.take_of_length_le (by simp [oss])
      simp [c1, get_purgeE, e0, e4, e7, e64, ea]
      refine ⟨by omega, _, _, fin W T cs ds ls (ps ++ [[9]]) (q3 + 1) (by omega) (by omega) (by omega) (by simp; omega) (by intro x hx; simp at hx; rcases hx with h | rfl; exact a5' x h; simp) (by omega), ?_⟩
      simp [get_purgeE, e0, e1, e4, e7, e64, t2]
    by_cases c2 : y = 2
    · simp [c0, c1, c2, get_purgeE, e0, e4, e7, e64]
      refine ⟨_, _, fin 0 0 [] [] [] [] (q3 + 1) (by simp) (by simp) (by simp) (by simp) (by simp) (by omega), ?_⟩
      simp [get_purgeE, e0, e1, e4, e7, e64, oss]
    · have ea : ints ds ++ [.v (.int .i64 0)] = ints (ds ++ [0]) := by simp [ints]
      have t2 : (ints (ds ++ [0])).take (ds.length + 1) = ints (ds ++ [0]) := List.take_of_length_le (by simp)
      simp [c0, c1, c2, get_purgeE, e0, e4, e7, e64, ea]
      refine ⟨by omega, _, _, fin W T cs (ds ++ [0]) ls ps (q3 + 1) (by omega) (by simp; omega) (by omega) (by omega) a5' (by omega), ?_⟩
      simp [get_purgeE, e0, e1, e4, e7, e64, t1, t2]
end Go.Proofs.Dev

namespace Go.Proofs.Dev
set_option linter.unusedSimpArgs false
set_option maxRecDepth 100000

def drawB (r : AV) (ups : List AV) : Prop := ∃ (W T : Int) (cs : List Bool) (ds ls : List Int) (ps : List (List Int)), cs.length ≤ 37 ∧ ds.length ≤ 38 ∧ ls.length ≤ 38 ∧ ps.length ≤ 21 ∧ (∀ x ∈ ps, x.length ≤ 37) ∧ r = bkO W T cs ds ls ps ∧ ups = [.bot]

end Go.Proofs.Dev

namespace Go.Proofs.Dev
set_option linter.unusedSimpArgs false
set_option maxRecDepth 100000

theorem end_le (W T : Int) (cs : List Bool) (ds ls : List Int) (ps : List (List Int)) : (endI W T cs ds ls ps).length ≤ 100 := by
  unfold endI
  split
  · rename_i h
    simp only [Bool.and_eq_true] at h
    have e := end_len h.1 h.2
    have h1 := liftsTo_length ls (solL W T cs ds (bareL W T cs)) (solL W T cs ds (bareL W T cs)).length
    have h2 := laysTo_length ls (solL W T cs ds (bareL W T cs)) (solL W T cs ds (bareL W T cs)).length
    unfold endT
    simp
    omega
  · simp
end Go.Proofs.Dev

namespace Go.Proofs.Dev
set_option linter.unusedSimpArgs false
set_option maxRecDepth 100000

theorem fair_none {W T : Int} {cs : List Bool} {ds : List Int} (hr : regB W T cs = true) (hd : digsB cs ds = true) : fairB W T cs ds (noneL cs) = true := by
  have hp : pairsI W T ds (noneL cs) = [] := by
    simp [pairsI, pairsTo, ati_none]
  simp [fairB, okB, hr, hd, lays_none, hp, onceB]

theorem solve_none {W T : Int} {cs : List Bool} {ds : List Int} (hr : regB W T cs = true) (hd : digsB cs ds = true) :
    resO ((solsI W T cs ds).find? (hasB (noneL cs))) = .tup [.os 1 (ints (solL W T cs ds (noneL cs))), .v (.bool (solB W T cs ds (noneL cs)))] := by
  have e : firstHas W T cs ds (noneL cs) = (solsI W T cs ds).find? (hasB (noneL cs)) := by simp [firstHas, fair_none hr hd]
  simp only [solL, solB, e]
  cases (solsI W T cs ds).find? (hasB (noneL cs)) <;> simp [resO]

theorem okEnd1 : okFn Tryz.prog n_impl_Book_endDeeds_1 = true := by kernel_rfl

theorem t_impl_endDeeds (W T : Int) (cs : List Bool) (ds ls : List Int) (ps : List (List Int)) (ws : List Int) (sb : Bool)
    (hws : sb = true → ls.length = ws.length ∧ ws.length ≤ 36) :
    awp Tryz.prog md3 c_impl_Book_endDeeds_T2 (Fin [RV.t 2] 88 1 [false] (AV.os 3 (dsA (if sb = true then endT ls ws else []))) [AV.bot])
      [(0, bkP W T cs ds ls ps), (3, .ls 1 0 0 ws.length), (4, .v (.bool sb))] [some (.arr 1 (ints ws))] := by
  cases sb with
  | false => simp [c_impl_Book_endDeeds_T2]
  | true =>
  obtain ⟨e1, e2⟩ := hws rfl
  simp [c_impl_Book_endDeeds_T2, anil]
  refine loop_by (fun m E H => ∃ i : Nat, m = ls.length - i ∧ i ≤ ls.length ∧ H = [some (.arr 1 (ints ws)), some (.arr 3 (dsA (liftsTo ls ws i)))] ∧
    E = [(0, bkP W T cs ds ls ps), (3, .ls 1 0 0 ws.length), (5, .ls 3 1 0 (liftsTo ls ws i).length), (6, .fn n_impl_Book_endDeeds_1 []), (34, .sl 1 1 (ints ls)), (35, .v (.int .i64 ls.length)), (36, .v (.int .i64 i))]) ls.length ⟨0, by simp [liftsTo]⟩ ?_
  rintro J hJ m E H ⟨i, rfl, hi, rfl, rfl⟩
  have hlen := liftsTo_length ls ws i
  have hsuc := liftsTo_succ ls ws i
  by_cases h : i < ls.length
  · have h2 : i < ws.length := by omega
    have nx1 : liftD ls ws i = [] → again J (ls.length - i) [(0, bkP W T cs ds ls ps), (3, .ls 1 0 0 ws.length), (5, .ls 3 1 0 (liftsTo ls ws i).length), (6, .fn n_impl_Book_endDeeds_1 []), (34, .sl 1 1 (ints ls)), (35, .v (.int .i64 ls.length)), (36, .v (.int .i64 (i + 1)))]
        [some (.arr 1 (ints ws)), some (.arr 3 (dsA (liftsTo ls ws i)))] :=
      fun e => ⟨_, by omega, hJ _ _ _ ⟨i + 1, rfl, h, by rw [hsuc, e, List.append_nil], by rw [hsuc, e, List.append_nil]; rfl⟩⟩
    have nx2 : liftD ls ws i = [(1, (i : Int), 0)] → again J (ls.length - i) [(0, bkP W T cs ds ls ps), (3, .ls 1 0 0 ws.length), (5, .ls 3 1 0 ((liftsTo ls ws i).length + 1)), (6, .fn n_impl_Book_endDeeds_1 []), (34, .sl 1 1 (ints ls)), (35, .v (.int .i64 ls.length)), (36, .v (.int .i64 (i + 1)))]
        [some (.arr 1 (ints ws)), some (.arr 3 (dsA (liftsTo ls ws i) ++ [.agg [.v (.int .i64 1), .v (.int .i64 i), .v (.int .i64 0)]]))] :=
      fun e => ⟨_, by omega, hJ _ _ _ ⟨i + 1, rfl, h, by rw [hsuc, e, dsA_append]; rfl, by rw [hsuc, e, List.length_append]; rfl⟩⟩
    have hio : i < 36 := by omega
    simp at nx1 nx2
    simp [c_impl_Book_endDeeds_L0, h, h2]
    refine ⟨okEnd1, ?_⟩
    refine call_on (s_impl_Book_endDeeds_1 (ati ls i)) ?_
    by_cases hw : ati ls i = 1 ∨ ati ls i = 2
    · by_cases hw3 : ati ws i = ati ls i
      · have nx := nx1 (by simp [liftD, hw3])
        simp [hw, hw3, h2]
        exact ⟨by omega, nx⟩
      · have nx := nx2 (by simp [liftD, hw, hw3])
        simp [hw, hw3, h2]
        exact ⟨by omega, by omega, nx⟩
    · have nx := nx1 (by simp only [liftD, hw, false_and, if_false])
      simp [hw, h2]
      exact ⟨by omega, nx⟩
  · have : i = ls.length := by omega
    subst this
    simp [c_impl_Book_endDeeds_L0]
    clear hJ J
    have hL : (liftsTo ls ws ls.length).length ≤ 36 := by omega
    have hE : endT ls ws = liftsTo ls ws ls.length ++ laysTo ls ws ws.length := by rw [e1]; rfl
    rw [hE]
    generalize liftsTo ls ws ls.length = L at *
    refine loop_by (fun m E H => ∃ i : Nat, m = ws.length - i ∧ i ≤ ws.length ∧ H = [some (.arr 3 (dsA (L ++ laysTo ls ws i))), some (.arr 1 (ints ws))] ∧
      E = [(0, bkP W T cs ds ls ps), (5, .ls 3 0 0 (L ++ laysTo ls ws i).length), (6, .fn n_impl_Book_endDeeds_1 []), (58, .ls 1 1 0 ws.length), (59, .v (.int .i64 ws.length)), (60, .v (.int .i64 i))]) ws.length ⟨0, by simp [laysTo]⟩ ?_
    rintro J hJ m E H ⟨i, rfl, hi, rfl, rfl⟩
    have hlen : (L ++ laysTo ls ws i).length ≤ 36 + i := by
      have := laysTo_length ls ws i
      rw [List.length_append]; omega
    have hsuc : L ++ laysTo ls ws (i + 1) = (L ++ laysTo ls ws i) ++ layD ls ws i := by rw [laysTo_succ, List.append_assoc]
    by_cases h : i < ws.length
    case neg =>
      have : i = ws.length := by omega
      subst this
      simp only [c_impl_Book_endDeeds_L1]
      generalize L ++ laysTo ls ws ws.length = M at *
      simp
      refine call_on (s_slices_Clip_Deed M) ?_
      simp
      exact List.take_of_length_le (by simp)
    have h2 : i < ls.length := by omega
    generalize L ++ laysTo ls ws i = M at *
    have nx1 : layD ls ws i = [] → again J (ws.length - i) [(0, bkP W T cs ds ls ps), (5, .ls 3 0 0 M.length), (6, .fn n_impl_Book_endDeeds_1 []), (58, .ls 1 1 0 ws.length), (59, .v (.int .i64 ws.length)), (60, .v (.int .i64 (i + 1)))]
        [some (.arr 3 (dsA M)), some (.arr 1 (ints ws))] :=
      fun e => ⟨_, by omega, hJ _ _ _ ⟨i + 1, rfl, h, by rw [hsuc, e, List.append_nil], by rw [hsuc, e, List.append_nil]; rfl⟩⟩
    have nx2 : layD ls ws i = [(0, (i : Int), ati ws i)] → again J (ws.length - i) [(0, bkP W T cs ds ls ps), (5, .ls 3 0 0 (M.length + 1)), (6, .fn n_impl_Book_endDeeds_1 []), (58, .ls 1 1 0 ws.length), (59, .v (.int .i64 ws.length)), (60, .v (.int .i64 (i + 1)))]
        [some (.arr 3 (dsA M ++ [.agg [.v (.int .i64 0), .v (.int .i64 i), .v (.int .i64 (ati ws i))]])), some (.arr 1 (ints ws))] :=
      fun e => ⟨_, by omega, hJ _ _ _ ⟨i + 1, rfl, h, by rw [hsuc, e, dsA_append]; rfl, by rw [hsuc, e, List.length_append]; rfl⟩⟩
    have hio : i < 36 := by omega
    simp at nx1 nx2
    simp [c_impl_Book_endDeeds_L1, h, h2, anil]
    refine ⟨okEnd1, ?_⟩
    refine call_on (s_impl_Book_endDeeds_1 (ati ws i)) ?_
    by_cases hw : ati ws i = 1 ∨ ati ws i = 2
    · by_cases hw3 : ati ls i = ati ws i
      · have nx := nx1 (by simp [layD, hw3])
        simp [hw, hw3, h2, anil]
        exact ⟨by omega, nx⟩
      · have hw3' : ¬ ati ws i = ati ls i := fun e => hw3 e.symm
        have nx := nx2 (by simp [layD, hw, hw3'])
        simp [hw, hw3, h2, anil]
        exact ⟨by omega, by omega, nx⟩
    · have nx := nx1 (by simp only [layD, hw, false_and, if_false])
      simp [hw, h2, anil]
      exact ⟨by omega, nx⟩

theorem s_impl_Book_endDeeds (W T : Int) (cs : List Bool) (ds ls : List Int) (ps : List (List Int)) (hbk : bookB W T cs ds ls ps = true) :
    SoundAt Tryz.prog n_impl_Book_endDeeds [bkP W T cs ds ls ps] (.os 3 (dsA (if solB W T cs ds (noneL cs) = true then endT ls (solL W T cs ds (noneL cs)) else []))) [.bot] := by
  have hok := fairB_ok (bookB_fair hbk)
  have hW := okB_W hok
  have hc36 := regB_len hW.1
  have hdg : digsB cs ds = true := by simp only [okB, Bool.and_eq_true] at hok; exact hok.2.1
  have hokn := fairB_ok (fair_none hW.1 hdg)
  have hsv := s_impl_Region_solve W T cs ds (noneL cs) hokn
  rw [solve_none hW.1 hdg] at hsv
  have hzr : ints (noneL cs) = List.replicate ds.length (AV.v (.int .i64 0)) := by rw [hW.2.1]; simp [noneL, ints]
  have tl := t_impl_endDeeds W T cs ds ls ps (solL W T cs ds (noneL cs)) (solB W T cs ds (noneL cs)) (fun h2 => ⟨(end_len hbk h2).1, (end_len hbk h2).2.1⟩)
  refine fn_ok (md := md3) (ms := [false]) k_impl_Book_endDeeds (by simp) ?_
  simp [c_impl_Book_endDeeds, anil]
  (repeat' first | omega | apply And.intro) <;>
  · refine call_on hsv ?_
    simp [hzr]
    exact ⟨by rw [← hzr]; simp, tl⟩

theorem s_impl_EndDeeds (W T : Int) (cs : List Bool) (ds ls : List Int) (ps : List (List Int)) (hc : cs.length < 2 ^ 40) (hd : ds.length < 2 ^ 40) (hl : ls.length < 2 ^ 40) (hb : ps.length < 2 ^ 40) (hp : ∀ p ∈ ps, p.length < 2 ^ 40) :
    SoundAt Tryz.prog n_impl_EndDeeds [bkA W T cs ds ls ps] (.os 3 (dsA (endI W T cs ds ls ps))) [.bot] := by
  refine fn_ok (md := md3) (ms := [false]) k_impl_EndDeeds (by simp) ?_
  simp [c_impl_EndDeeds]
  refine call_on (s_impl_BookValid W T cs ds ls ps hc hd hl hb hp) ?_
  cases hbk : bookB W T cs ds ls ps with
  | false => simp [endI, hbk]
  | true =>
  have hr : regB W T cs = true := (okB_W (fairB_ok (bookB_fair hbk))).1
  simp
  refine call_on (s_impl_Book_endDeeds W T cs ds ls ps hbk) ?_
  simp [endI, hbk, bareL, hr]
  exact List.take_of_length_le (by simp)

end Go.Proofs.Dev

namespace Go.Proofs.Dev
set_option linter.unusedSimpArgs false
set_option maxRecDepth 100000

theorem s_spec_DrawEndDeeds (bs : List Int) (hb : bs.length ≤ 2 ^ 60) (hB : Byt bs) : SoundSet Tryz.prog n_spec_DrawEndDeeds [.sl 0 1 (u8s bs)] drawB := by
  refine fn_okS (md := md8) (ms := [false]) k_spec_DrawEndDeeds (by simp) ?_
  simp [c_spec_DrawEndDeeds]
  refine call_on (s_spec_l20Open bs hb) ?_
  simp
  refine call_onK (s_spec_l20Book (bs.take 2000) 0 9 (by simp; omega) (byt_take hB 2000) (by omega) (by omega) (by omega)) [1] (by simp) (by simp) (by simp) ?_
  rintro _ _ ⟨W, T, cs, ds, ls, ps, q, h1, h2, h3, h4, h5, _, rfl, rfl⟩
  have t1 : (oss ps).take ps.length = oss ps := List.take_of_length_le (by simp [oss])
  simp
  refine ⟨_, _, ⟨W, T, cs, ds, ls, ps, h1, h2, h3, h4, h5, rfl, rfl⟩, ?_⟩
  simp [t1]

theorem vwL_ds3 (xs : List (Int × Int × Int)) : vwL 1 (dsA xs) = dsA xs := by
  induction xs with
  | nil => rfl
  | cons x xs ih =>
    show vwL 1 (deedA x :: dsA xs) = deedA x :: dsA xs
    simp only [vwL, ih, deedA, vw]

theorem endT_spot {ls ws : List Int} {d : Int × Int × Int} (h : d ∈ endT ls ws) : d.2.1 ≤ ws.length := by
  simp only [endT, liftsTo, laysTo, List.mem_append, List.mem_flatMap, List.mem_range] at h
  rcases h with ⟨k, hk, h⟩ | ⟨k, hk, h⟩
  · unfold liftD at h
    split at h
    · simp at h; subst h; simp; omega
    · simp at h
  · unfold layD at h
    split at h
    · simp at h; subst h; simp; omega
    · simp at h

set_option maxHeartbeats 4000000 in
theorem ed_T1 (W T : Int) (cs : List Bool) (ds ls ws : List Int) (ps p2 : List (List Int)) (xs : List (Int × Int × Int)) (hcs : cs.length ≤ 37) (hds : ds.length ≤ 38) (hls : ls.length ≤ 38) (hps : ps.length ≤ 21) (hv : bookB W T cs ds ls ps = true) (hx : xs.length ≤ 100)
    (hx2 : ∀ d ∈ xs, d.2.1 ≤ 100) (hall : allDo W T cs ds ls ps xs = some (ws, p2)) (hf : fullB cs ws = true) (hw : ws.length ≤ 36) :
    awp Tryz.prog md8 c_laws_FnEndDeeds_T1 (Fin [RV.t 2] 75 1 [false] (.v (.bool true)) [.bot]) [(3, .lp 0 0 0 0), (4, .ls 3 1 0 xs.length), (5, .ls 1 2 0 ws.length), (6, .v (.bool true))]
      [some (.box (bkcs 3 W T cs ds ls ps)), some (.arr 3 (dsA xs)), some (.arr 1 (ints ws)), some (.arr 1 (bools cs)), some (.arr 1 (ints ds)), some (.arr 1 (ints ls)), some (.arr 1 (oss ps))] := by
  have tkx : (dsA xs).take xs.length = dsA xs := List.take_of_length_le (by simp)
  have hdo := fun n => allDo_take hall hv n
  simp [c_laws_FnEndDeeds_T1, tkx]
  refine loop_by (fun m E H => ∃ (i : Nat) (l : List Int) (p : List (List Int)), m = xs.length - i ∧ i ≤ xs.length ∧ allDo W T cs ds ls ps (xs.take i) = some (l, p) ∧
    E = [(4, .ls 3 0 0 xs.length), (5, .ls 1 1 0 ws.length), (7, .lp 0 2 0 0), (8, .v (.int .i64 i))] ∧
    H = [some (.arr 3 (dsA xs)), some (.arr 1 (ints ws)), some (.box (bkcs 3 W T cs ds l p)), some (.arr 1 (bools cs)), some (.arr 1 (ints ds)), some (.arr 1 (ints l)), some (.arr 1 (oss p))]) xs.length ⟨0, ls, ps, rfl, by omega, rfl, by simp, by simp⟩ ?_
  rintro J hJ m E H ⟨i, l, p, rfl, hi, hal, rfl, rfl⟩
  obtain ⟨l', p', e1, hvi, hst⟩ := hdo i
  obtain ⟨rfl, rfl⟩ : l' = l ∧ p' = p := by rw [hal] at e1; simpa [eq_comm] using e1
  obtain ⟨hfi, h20, hpf⟩ := book_parts hvi
  have fl := fair_len hfi
  have hp30 : ∀ x ∈ p', x.length ≤ 2 ^ 30 := fun x hx => by have := fair_len (hpf x hx); omega
  by_cases h : i < xs.length
  · obtain ⟨l3, p3, e3, e4⟩ := hst h
    have do1 := s_impl_BookDoA W T cs ds l' p' (xs[i]).1 (xs[i]).2.1 (xs[i]).2.2 (by omega) (by omega) (by omega) (by omega) hp30 (by have := hx2 _ (List.getElem_mem h); omega)
    rw [hvi, e3] at do1
    simp only [if_true, Bool.true_and] at do1
    have nx : again J (xs.length - i) [(4, .ls 3 0 0 xs.length), (5, .ls 1 1 0 ws.length), (7, .lp 0 2 0 0), (8, .v (.int .i64 ((i : Int) + 1)))]
        [some (.arr 3 (dsA xs)), some (.arr 1 (ints ws)), some (.box (bkcs 3 W T cs ds l3 p3)), some (.arr 1 (bools cs)), some (.arr 1 (ints ds)), some (.arr 1 (ints l3)), some (.arr 1 (oss p3))] :=
      ⟨_, by omega, hJ _ _ _ ⟨i + 1, l3, p3, rfl, h, e4, rfl, rfl⟩⟩
    have i1 : -9223372036854775808 ≤ (i : Int) + 1 ∧ (i : Int) + 1 ≤ 9223372036854775807 := by omega
    have ge := dsA_get' h
    simp [c_laws_FnEndDeeds_L0, h, deedA]
    (repeat' first | apply And.intro) <;>
    · refine call_on do1 ?_
      simp
      exact ⟨i1, nx⟩
  · have : i = xs.length := by omega
    subst this
    have e5 : l' = ws ∧ p' = p2 := by
      rw [List.take_length, hall] at hal
      simp at hal
      exact ⟨hal.1.symm, hal.2.symm⟩
    obtain ⟨rfl, rfl⟩ := e5
    have so := s_impl_BookSolved W T cs ds l' p' (by omega) (by omega) (by omega) (by omega) (fun x hx => by have := hp30 x hx; omega)
    have hso : bsolB W T cs ds l' p' = true := by simp [bsolB, hvi, hf]
    have si := s_laws_sameInts l' l' (by omega)
    rw [hso] at so
    simp [c_laws_FnEndDeeds_L0]
    refine call_on so ?_
    simp
    refine call_on si ?_
    simp

set_option maxHeartbeats 4000000 in
theorem l_FnEndDeeds (bs : List Int) (hB : Byt bs) : SoundAt Tryz.prog n_laws_FnEndDeeds [.sl 0 1 (u8s bs)] (.v (.bool true)) [.bot] := by
  refine fn_ok (md := md8) (ms := [false]) k_laws_FnEndDeeds (by simp) ?_
  simp [c_laws_FnEndDeeds]
  refine fun hsz => ?_
  have hb : bs.length ≤ 2 ^ 60 := by omega
  refine call_onK (s_spec_DrawEndDeeds bs hb hB) [] (by simp) (by simp) (by simp) ?_
  rintro _ _ ⟨W, T, cs, ds, ls, ps, h1, h2, h3, h4, h5, rfl, rfl⟩
  have hp : ∀ p ∈ ps, p.length < 2 ^ 40 := fun p hp => by have := h5 p hp; omega
  have one := s_impl_EndDeeds W T cs ds ls ps (by omega) (by omega) (by omega) (by omega) hp
  have two := s_spec_EndDeeds W T cs ds ls ps (by omega) (by omega) (by omega) (by omega) hp
  have va := s_spec_BookValid W T cs ds ls ps (by omega) (by omega) (by omega) (by omega) hp
  have bare : SoundAt Tryz.prog n_impl_LaidBare [.agg [.v (.int .i64 W), .v (.int .i64 T), .sl 1 1 (bools cs)]] (.os 1 (ints (bareL W T cs))) [.bot] := s_impl_LaidBare W T cs (by omega)
  have sol := s_impl_SolveFirstU W T cs ds (bareL W T cs) (by omega) (by omega) (by unfold bareL noneL; split <;> simp <;> omega)
  have hel := end_le W T cs ds ls ps
  have same := s_laws_sameDeeds (endI W T cs ds ls ps) (endI W T cs ds ls ps) (by omega)
  have tk : (dsA (endI W T cs ds ls ps)).take (endI W T cs ds ls ps).length = dsA (endI W T cs ds ls ps) := List.take_of_length_le (by simp)
  simp
  refine call_on one ?_
  simp [tk]
  refine call_on two ?_
  simp [tk]
  refine call_on same ?_
  simp [tk]
  refine ⟨vwL_ds3 _, ?_⟩
  refine call_on va ?_
  cases hv : bookB W T cs ds ls ps with
  | false =>
    have : endI W T cs ds ls ps = [] := by simp [endI, hv]
    simp [this]
    refine call_on s_laws_alive ?_
    simp
  | true =>
    simp
    have hend : endI W T cs ds ls ps = if solB W T cs ds (bareL W T cs) = true then endT ls (solL W T cs ds (bareL W T cs)) else [] := by simp [endI, hv]
    have fin : awp Tryz.prog md8 c_laws_FnEndDeeds_T1 (Fin [RV.t 2] 75 1 [false] (.v (.bool true)) [.bot]) [(3, .lp 0 0 0 0), (4, .ls 3 1 0 (endI W T cs ds ls ps).length), (5, .ls 1 2 0 (solL W T cs ds (bareL W T cs)).length), (6, .v (.bool (solB W T cs ds (bareL W T cs))))]
        [some (.box (bkcs 3 W T cs ds ls ps)), some (.arr 3 (dsA (endI W T cs ds ls ps))), some (.arr 1 (ints (solL W T cs ds (bareL W T cs)))), some (.arr 1 (bools cs)), some (.arr 1 (ints ds)), some (.arr 1 (ints ls)), some (.arr 1 (oss ps))] := by
      cases hs : solB W T cs ds (bareL W T cs) with
      | false =>
        rw [hs] at hend
        simp at hend
        simp [c_laws_FnEndDeeds_T1, hend]
      | true =>
        rw [hs] at hend
        simp only [if_true] at hend
        obtain ⟨e1, e2, _⟩ := end_len hv hs
        obtain ⟨x, hx⟩ : ∃ x, firstHas W T cs ds (bareL W T cs) = some x := by
          unfold solB at hs
          exact Option.isSome_iff_exists.1 hs
        have ex : solL W T cs ds (bareL W T cs) = x := by simp [solL, hx]
        rw [ex] at e1 e2 hend ⊢
        obtain ⟨_, hx2, _⟩ := firstHas_sol hx
        obtain ⟨f1, f2⟩ := solved_parts hx2
        obtain ⟨p2, a1, _⟩ := end_all hv f1
        rw [hend]
        exact ed_T1 W T cs ds ls x ps p2 (endT ls x) h1 h2 h3 h4 hv (by rw [← hend]; exact hel) (fun d hd => by have := endT_spot hd; omega) a1 f2 e2
    repeat' (first | exact fin | apply And.intro | (refine call_on bare ?_; simp) | (refine call_on sol ?_; simp))
end Go.Proofs.Dev
