/- Contracts of the functions of the program over slots and rows, each proved against the program itself; no condition beyond those that each theorem names. -/
import Derived.Test.YtfkmfobbgoflgaaGreatDoorAI
import Derived.Lib.Split
import Derived.Lib.SplitLaws
import Derived.Lib.AtoiAll
import Derived.Test.YtfkmfobbgoflgaaGreatDoorAH
import Derived.Test.YtfkmfobbgoflgaaGreatDoorAG

set_option linter.unusedSimpArgs false
set_option linter.unusedVariables false

namespace Go.Proofs.Dev
open Go.Lib

theorem cut_miss : ∀ {s : List UInt8} {c : UInt8}, indexByte s c = -1 → cutL c s = [s]
  | [], c, _ => rfl
  | b :: l, c, h => by
    unfold indexByte at h
    by_cases hb : b = c
    · simp [hb] at h
    · rw [if_neg (by simpa using hb)] at h
      have hl : indexByte l c = -1 := by
        by_cases h1 : (indexByte l c == -1) = true
        · simpa using h1
        · rw [if_neg h1] at h
          have := indexByte_ge l c
          omega
      rw [cutL, if_neg hb, cut_miss hl]

theorem cutL_cons (c : UInt8) : ∀ s : List UInt8, ∃ p ps, cutL c s = p :: ps
  | [] => ⟨_, _, rfl⟩
  | x :: s => by
    rw [cutL]
    split
    · exact ⟨_, _, rfl⟩
    · obtain ⟨p, ps, h⟩ := cutL_cons c s
      rw [h]
      exact ⟨_, _, rfl⟩

theorem cut_hit : ∀ {s : List UInt8} {c : UInt8} {i : Nat}, indexByte s c = i → cutL c s = s.take i :: cutL c (s.drop (i + 1))
  | [], c, i, h => by simp [indexByte] at h
  | b :: l, c, i, h => by
    unfold indexByte at h
    by_cases hb : b = c
    · rw [if_pos (by simpa using hb)] at h
      have : i = 0 := by omega
      subst this
      rw [cutL, if_pos hb]
      simp
    · rw [if_neg (by simpa using hb)] at h
      by_cases h1 : (indexByte l c == -1) = true
      · rw [if_pos h1] at h; omega
      · rw [if_neg h1] at h
        have := indexByte_ge l c
        have h2 : indexByte l c ≠ -1 := by simpa using h1
        obtain ⟨j, hj⟩ : ∃ j : Nat, indexByte l c = j := ⟨(indexByte l c).toNat, by omega⟩
        have hi : i = j + 1 := by omega
        subst hi
        rw [cutL, if_neg hb, cut_hit hj]
        simp

theorem split_cut (c : UInt8) : ∀ (n : Nat) (s : List UInt8), s.length ≤ n → splitK [c] 0 (count s [c]) s = cutL c s
  | n, s, hn => by
    by_cases h : index s [c] = -1
    · rw [count_miss h, splitK, cut_miss (by rw [← index_one]; exact h)]
    · have h1 := indexByte_ge s c
      rw [index_one] at h
      obtain ⟨i, hi⟩ : ∃ i : Nat, indexByte s c = i := ⟨(indexByte s c).toNat, by omega⟩
      have hi' : index s [c] = i := by rw [index_one]; exact hi
      have hlt : i < s.length := by
        have := (indexByte_some hi).1
        exact (List.getElem?_eq_some_iff.1 this).1
      rw [count_hit (by simp) hi', Nat.add_comm, splitK, if_neg (by rw [hi']; simp), hi', cut_hit hi]
      have e : ((i : Nat) : Int).toNat = i := by omega
      rw [e, Nat.add_zero]
      match n, hn with
      | 0, hn => omega
      | n + 1, hn =>
        have := split_cut c n (s.drop (i + [c].length)) (by simp; omega)
        rw [this]
        rfl

theorem splitB_cut (c : UInt8) (s : List UInt8) : (splitB ⟨[c].toArray⟩ 0 (countB ⟨s.toArray⟩ ⟨[c].toArray⟩) ⟨s.toArray⟩).map Value.string = (cutL c s).map tx := by
  have h := splitB_data ⟨[c].toArray⟩ 0 (countB ⟨s.toArray⟩ ⟨[c].toArray⟩) ⟨s.toArray⟩
  have h2 : splitK [c] 0 (count s [c]) s = cutL c s := split_cut c s.length s (Nat.le_refl _)
  have h3 : (splitB ⟨[c].toArray⟩ 0 (countB ⟨s.toArray⟩ ⟨[c].toArray⟩) ⟨s.toArray⟩).map (·.data.toList) = cutL c s := h.trans h2
  rw [← h3, List.map_map]
  apply List.map_congr_left
  intro b _
  show Value.string b = Value.string ⟨b.data.toList.toArray⟩
  rw [mk_data]

/-- What Atoi gives, wherever it errs too. -/
def atoiV (l : List UInt8) : Int := match atoiAll l with
  | .ok v => v
  | .range => atoiSat l
  | _ => 0

theorem cutL_each (c : UInt8) : ∀ (s : List UInt8) (p : List UInt8), p ∈ cutL c s → p.length ≤ s.length
  | [], p, h => by simp [cutL] at h; simp [h]
  | x :: s, p, h => by
    rw [cutL] at h
    split at h
    · rcases List.mem_cons.1 h with rfl | h
      · simp
      · have := cutL_each c s p h; simp; omega
    · obtain ⟨q, qs, e⟩ := cutL_cons c s
      rw [e] at h
      rcases List.mem_cons.1 h with rfl | h
      · have := cutL_each c s q (by rw [e]; simp); simp; omega
      · have := cutL_each c s p (by rw [e]; simp [h]); simp; omega
theorem nth_each (c : UInt8) (s : List UInt8) (i : Nat) : (nth (cutL c s) i).length ≤ s.length := by
  unfold nth
  by_cases h : i < (cutL c s).length
  · simp only [List.getD_eq_getElem?_getD, List.getElem?_eq_getElem h, Option.getD_some]
    exact cutL_each c s _ (List.getElem_mem h)
  · simp [List.getElem?_eq_none (show (cutL c s).length ≤ i by omega)]

end Go.Proofs.Dev

namespace Go.Proofs.Dev
open Go.RowKit
set_option linter.unusedSimpArgs false

theorem kept_of_below {w w' : World} (S : List Nat) (h : Below w.heap.size w w') : Kept w.heap.size S w w' := by
  refine ⟨h.os, h.tape, h.output, h.size, fun k hk _ => h.block k hk, ?_⟩
  intro b p k hr j hj
  obtain ⟨⟨u, hu⟩, hf⟩ := hr j hj
  have hlt : b < w.heap.size := block_lt_of_cell hu
  have hb := h.block b hlt
  rw [World.cell?_of_block (w := w) (a := ⟨b, p + j, none⟩) hb, World.frozen?_of_block (w := w) (a := ⟨b, p + j, none⟩) hb]
  exact ⟨⟨u, hu⟩, hf⟩

theorem RL_vs {C : Ctx} : ∀ {xs : List Value} {S : List Nat} {us : List Value}, RL C (xs.map AV.v) S us → S = [] ∧ us = xs
  | [], S, us, h => by
    have h' : RL C [] S us := h
    rw [RL] at h'
    exact h'
  | x :: xs, S, us, h => by
    have h' : RL C (.v x :: xs.map AV.v) S us := h
    rw [RL] at h'
    obtain ⟨S1, S2, u, us', rfl, rfl, h1, h2⟩ := h'
    rw [R] at h1
    obtain ⟨rfl, rfl⟩ := RL_vs h2
    rw [h1.1, h1.2]
    exact ⟨rfl, rfl⟩

theorem RL_bts {C : Ctx} : ∀ xs : List Value, RL C (xs.map fun _ => AV.bot) [] xs
  | [] => by show RL C [] [] []; rw [RL]; exact ⟨rfl, rfl⟩
  | x :: xs => by
    show RL C (.bot :: xs.map fun _ => AV.bot) [] (x :: xs)
    rw [RL]; exact ⟨[], [], _, _, rfl, rfl, by rw [R], RL_bts xs⟩

theorem of_lib {P : Program} {f : Nat} {xs : List Value} {r : AV} (h : ∀ (w : World) (S : List Nat) (forb : Nat → Prop), GB w S forb → Calls P f xs.toArray w fun e w' => ∃ v S', e = .returned v ∧ R (cout w' S' forb) r S' v ∧ S'.Nodup ∧ (∀ x ∈ S', x < w'.heap.size ∧ w.heap.size ≤ x) ∧ Kept w.heap.size [] w w') :
    SoundAt P f (xs.map AV.v) r (xs.map fun _ => .bot) := by
  intro w forb us S hr hnd hlt hforb
  obtain ⟨rfl, rfl⟩ := RL_vs hr
  refine (h w [] forb hforb.2).mono ?_
  rintro e w' ⟨v, S', rfl, h1, h2, h3, h4⟩
  refine ⟨v, S', rfl, ?_, h2, fun x hx => ⟨(h3 x hx).1, .inl (h3 x hx).2⟩, h4⟩
  rw [RL]
  exact ⟨S', [], v, _, by simp, rfl, h1, RL_bts _⟩

end Go.Proofs.Dev

namespace Go.Proofs.Dev

/-- Where the first line ends. -/
def nl : List UInt8 → Option Nat
  | [] => none
  | c :: t => if c = 10 then some 0 else (nl t).map (· + 1)

theorem nl_lt : ∀ {t : List UInt8} {i : Nat}, nl t = some i → i < t.length
  | [], i, h => by simp [nl] at h
  | c :: t, i, h => by
    simp only [nl] at h
    split at h
    · simp at h; subst h; simp
    · simp only [Option.map_eq_some_iff] at h
      obtain ⟨j, hj, rfl⟩ := h
      have := nl_lt hj
      simp; omega

theorem nl_index : ∀ t : List UInt8, Go.Lib.indexByte t 10 = match nl t with
    | some i => (i : Int)
    | none => -1
  | [] => rfl
  | c :: t => by
    rw [Go.Lib.indexByte, nl, nl_index t]
    by_cases h : c = 10
    · simp [h]
    · rw [if_neg (by simpa using h), if_neg h]
      cases nl t with
      | none => rfl
      | some i =>
        have : ¬ ((i : Int) == -1) = true := by simp
        simp

theorem nl_cut_some {t : List UInt8} {i : Nat} (h : nl t = some i) : Go.Lib.cut t [10] = (t.take i, t.drop (i + 1), true) := by
  have e : Go.Lib.index t [10] = i := by rw [Go.Lib.index_one, nl_index, h]
  rw [Go.Lib.cut, e, if_pos (by omega)]
  simp
theorem nl_cut_none {t : List UInt8} (h : nl t = none) : Go.Lib.cut t [10] = (t, [], false) := by
  have e : Go.Lib.index t [10] = -1 := by rw [Go.Lib.index_one, nl_index, h]
  rw [Go.Lib.cut, e, if_neg (by omega)]

/-- The deeds with which a text begins, and how many bytes they take. -/
def jr (t : List UInt8) : List (Int × Int × Int) × Nat :=
  match h : nl t with
  | none => ([], 0)
  | some i => if readB (t.take i) then (readD (t.take i) :: (jr (t.drop (i + 1))).1, i + 1 + (jr (t.drop (i + 1))).2) else ([], 0)
termination_by t.length
decreasing_by all_goals (have := nl_lt h; simp; omega)

theorem jr_none {t : List UInt8} (h : nl t = none) : jr t = ([], 0) := by
  rw [jr]
  split
  · rfl
  · rename_i i hi; rw [h] at hi; cases hi
theorem jr_no {t : List UInt8} {i : Nat} (h : nl t = some i) (hr : readB (t.take i) = false) : jr t = ([], 0) := by
  rw [jr]
  split
  · rfl
  · rename_i j hj; rw [h] at hj; cases hj; simp [hr]
theorem jr_yes {t : List UInt8} {i : Nat} (h : nl t = some i) (hr : readB (t.take i) = true) : jr t = (readD (t.take i) :: (jr (t.drop (i + 1))).1, i + 1 + (jr (t.drop (i + 1))).2) := by
  rw [jr]
  split
  · rename_i hj; rw [h] at hj; cases hj
  · rename_i j hj; rw [h] at hj; cases hj; simp [hr]

end Go.Proofs.Dev

namespace Go.Proofs.Dev

theorem more_fin : ∀ k : _root_.Fin 5, ∀ s : _root_.Fin 100, ∀ w : _root_.Fin 5, (if txtOk ((k.val : Int), (s.val : Int), (w.val : Int)) then (decide ((dText ((k.val : Int), (s.val : Int), (w.val : Int))).getLast? ≠ some 32) && decide ((dText ((k.val : Int), (s.val : Int), (w.val : Int))).length ≤ 12)) else true) = true := by decide +kernel

theorem deed_last {d : Int × Int × Int} (h : txtOk d = true) : (dText d).getLast? ≠ some 32 ∧ (dText d).length ≤ 12 := by
  obtain ⟨k, s, w⟩ := d
  obtain ⟨k', s', w', rfl, rfl, rfl⟩ := txt_range h
  have := more_fin k' s' w'
  rw [if_pos h] at this
  simpa using this

theorem deed_len (d : Int × Int × Int) : (dText d).length ≤ 12 := by
  cases h : txtOk d with
  | true => exact (deed_last h).2
  | false => rw [(dText_nil d).2 h]; simp

end Go.Proofs.Dev

namespace Go.Proofs.Dev

theorem line_fin : ∀ k : _root_.Fin 5, ∀ s : _root_.Fin 100, ∀ w : _root_.Fin 5, (if txtOk ((k.val : Int), (s.val : Int), (w.val : Int)) then decide (10 ∉ dText ((k.val : Int), (s.val : Int), (w.val : Int))) else true) = true := by decide +kernel
theorem deed_line {d : Int × Int × Int} (h : txtOk d = true) : (10 : UInt8) ∉ dText d := by
  obtain ⟨k, s, w⟩ := d
  obtain ⟨k', s', w', rfl, rfl, rfl⟩ := txt_range h
  have := line_fin k' s' w'
  rw [if_pos h] at this
  simpa using this

theorem nl_app : ∀ {a : List UInt8} (b : List UInt8), (10 : UInt8) ∉ a → nl (a ++ 10 :: b) = some a.length
  | [], b, _ => rfl
  | c :: a, b, h => by
    have hc : ¬ c = 10 := fun e => h (by simp [e])
    show nl (c :: (a ++ 10 :: b)) = _
    rw [nl, if_neg hc, nl_app b (fun e => h (by simp [e]))]
    rfl

/-- The deeds of a journal are read from its text, and all of it. -/
theorem jr_text : ∀ (xs : List (Int × Int × Int)) (f : List UInt8), (∀ d ∈ xs, txtOk d = true) → f = (xs.map fun d => dText d ++ [10]).flatten → jr f = (xs, f.length)
  | [], f, _, hf => by
    subst hf
    exact jr_none rfl
  | d :: xs, f, h, hf => by
    have hd := h d (by simp)
    obtain ⟨r1, r2⟩ := read_text hd
    have ih := jr_text xs _ (fun e he => h e (by simp [he])) rfl
    have e : f = dText d ++ 10 :: (xs.map fun d => dText d ++ [10]).flatten := by rw [hf]; simp
    generalize (xs.map fun d => dText d ++ [10]).flatten = g at *
    have hn : nl f = some (dText d).length := by rw [e]; exact nl_app g (deed_line hd)
    have ht : f.take (dText d).length = dText d := by rw [e]; simp
    have hdr : f.drop ((dText d).length + 1) = g := by rw [e]; simp
    rw [jr_yes hn (by rw [ht]; exact r1), ht, hdr, ih, r2, e]
    simp
    omega

end Go.Proofs.Dev
