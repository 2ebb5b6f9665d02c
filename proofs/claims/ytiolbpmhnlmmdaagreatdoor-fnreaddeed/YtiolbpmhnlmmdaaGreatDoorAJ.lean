/- Contracts of the functions of the program over slots and rows, each proved against the program itself; no condition beyond those that each theorem names. -/
import Derived.Test.YtiolbpmhnlmmdaaGreatDoorAI
import Derived.Lib.Split
import Derived.Lib.SplitLaws
import Derived.Lib.AtoiAll

set_option linter.unusedSimpArgs false
set_option linter.unusedVariables false

namespace Go.Proofs.Dev
open Go.Lib

theorem cut_miss : ∀ {s : List UInt8} {c : UInt8}, indexByte s c = -1 → cutL c s = [s]
  | [], c, _ => rfl
  | b :: l, c, h => by
    unfold indexByte at h
    by_cases hb : b = c
    · simp [hb] at h
    · rw [if_neg (by simpa using hb)] at h
      have hl : indexByte l c = -1 := by
        by_cases h1 : (indexByte l c == -1) = true
        · simpa using h1
        · rw [if_neg h1] at h
          have := indexByte_ge l c
          omega
      rw [cutL, if_neg hb, cut_miss hl]

theorem cutL_cons (c : UInt8) : ∀ s : List UInt8, ∃ p ps, cutL c s = p :: ps
  | [] => ⟨_, _, rfl⟩
  | x :: s => by
    rw [cutL]
    split
    · exact ⟨_, _, rfl⟩
    · obtain ⟨p, ps, h⟩ := cutL_cons c s
      rw [h]
      exact ⟨_, _, rfl⟩

theorem cut_hit : ∀ {s : List UInt8} {c : UInt8} {i : Nat}, indexByte s c = i → cutL c s = s.take i :: cutL c (s.drop (i + 1))
  | [], c, i, h => by simp [indexByte] at h
  | b :: l, c, i, h => by
    unfold indexByte at h
    by_cases hb : b = c
    · rw [if_pos (by simpa using hb)] at h
      have : i = 0 := by omega
      subst this
      rw [cutL, if_pos hb]
      simp
    · rw [if_neg (by simpa using hb)] at h
      by_cases h1 : (indexByte l c == -1) = true
      · rw [if_pos h1] at h; omega
      · rw [if_neg h1] at h
        have := indexByte_ge l c
        have h2 : indexByte l c ≠ -1 := by simpa using h1
        obtain ⟨j, hj⟩ : ∃ j : Nat, indexByte l c = j := ⟨(indexByte l c).toNat, by omega⟩
        have hi : i = j + 1 := by omega
        subst hi
        rw [cutL, if_neg hb, cut_hit hj]
        simp

theorem split_cut (c : UInt8) : ∀ (n : Nat) (s : List UInt8), s.length ≤ n → splitK [c] 0 (count s [c]) s = cutL c s
  | n, s, hn => by
    by_cases h : index s [c] = -1
    · rw [count_miss h, splitK, cut_miss (by rw [← index_one]; exact h)]
    · have h1 := indexByte_ge s c
      rw [index_one] at h
      obtain ⟨i, hi⟩ : ∃ i : Nat, indexByte s c = i := ⟨(indexByte s c).toNat, by omega⟩
      have hi' : index s [c] = i := by rw [index_one]; exact hi
      have hlt : i < s.length := by
        have := (indexByte_some hi).1
        exact (List.getElem?_eq_some_iff.1 this).1
      rw [count_hit (by simp) hi', Nat.add_comm, splitK, if_neg (by rw [hi']; simp), hi', cut_hit hi]
      have e : ((i : Nat) : Int).toNat = i := by omega
      rw [e, Nat.add_zero]
      match n, hn with
      | 0, hn => omega
      | n + 1, hn =>
        have := split_cut c n (s.drop (i + [c].length)) (by simp; omega)
        rw [this]
        rfl

theorem splitB_cut (c : UInt8) (s : List UInt8) : (splitB ⟨[c].toArray⟩ 0 (countB ⟨s.toArray⟩ ⟨[c].toArray⟩) ⟨s.toArray⟩).map Value.string = (cutL c s).map tx := by
  have h := splitB_data ⟨[c].toArray⟩ 0 (countB ⟨s.toArray⟩ ⟨[c].toArray⟩) ⟨s.toArray⟩
  have h2 : splitK [c] 0 (count s [c]) s = cutL c s := split_cut c s.length s (Nat.le_refl _)
  have h3 : (splitB ⟨[c].toArray⟩ 0 (countB ⟨s.toArray⟩ ⟨[c].toArray⟩) ⟨s.toArray⟩).map (·.data.toList) = cutL c s := h.trans h2
  rw [← h3, List.map_map]
  apply List.map_congr_left
  intro b _
  show Value.string b = Value.string ⟨b.data.toList.toArray⟩
  rw [mk_data]

/-- What Atoi gives, wherever it errs too. -/
def atoiV (l : List UInt8) : Int := match atoiAll l with
  | .ok v => v
  | .range => atoiSat l
  | _ => 0

theorem cutL_each (c : UInt8) : ∀ (s : List UInt8) (p : List UInt8), p ∈ cutL c s → p.length ≤ s.length
  | [], p, h => by simp [cutL] at h; simp [h]
  | x :: s, p, h => by
    rw [cutL] at h
    split at h
    · rcases List.mem_cons.1 h with rfl | h
      · simp
      · have := cutL_each c s p h; simp; omega
    · obtain ⟨q, qs, e⟩ := cutL_cons c s
      rw [e] at h
      rcases List.mem_cons.1 h with rfl | h
      · have := cutL_each c s q (by rw [e]; simp); simp; omega
      · have := cutL_each c s p (by rw [e]; simp [h]); simp; omega
theorem nth_each (c : UInt8) (s : List UInt8) (i : Nat) : (nth (cutL c s) i).length ≤ s.length := by
  unfold nth
  by_cases h : i < (cutL c s).length
  · simp only [List.getD_eq_getElem?_getD, List.getElem?_eq_getElem h, Option.getD_some]
    exact cutL_each c s _ (List.getElem_mem h)
  · simp [List.getElem?_eq_none (show (cutL c s).length ≤ i by omega)]

end Go.Proofs.Dev

namespace Go.Proofs.Dev

theorem more_fin : ∀ k : _root_.Fin 5, ∀ s : _root_.Fin 100, ∀ w : _root_.Fin 5, (if txtOk ((k.val : Int), (s.val : Int), (w.val : Int)) then (decide ((dText ((k.val : Int), (s.val : Int), (w.val : Int))).getLast? ≠ some 32) && decide ((dText ((k.val : Int), (s.val : Int), (w.val : Int))).length ≤ 12)) else true) = true := by decide +kernel

theorem deed_last {d : Int × Int × Int} (h : txtOk d = true) : (dText d).getLast? ≠ some 32 ∧ (dText d).length ≤ 12 := by
  obtain ⟨k, s, w⟩ := d
  obtain ⟨k', s', w', rfl, rfl, rfl⟩ := txt_range h
  have := more_fin k' s' w'
  rw [if_pos h] at this
  simpa using this

theorem deed_len (d : Int × Int × Int) : (dText d).length ≤ 12 := by
  cases h : txtOk d with
  | true => exact (deed_last h).2
  | false => rw [(dText_nil d).2 h]; simp

theorem deed_more (s : List UInt8) : readB (s ++ [32]) = false := by
  cases h : readB (s ++ [32]) with
  | false => rfl
  | true =>
    obtain ⟨h1, h2⟩ := text_read h
    have := (deed_last h2).1
    rw [h1] at this
    simp at this

end Go.Proofs.Dev
