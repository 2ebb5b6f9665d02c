/- Contracts of the functions of the program over slots and rows, each proved against the program itself; no condition beyond those that each theorem names. -/
import Derived.Test.YtfkmfobbgoflgaaGreatDoorAI
import Derived.Lib.Split
import Derived.Lib.SplitLaws
import Derived.Lib.AtoiAll
import Derived.Test.YtfkmfobbgoflgaaGreatDoorAH
import Derived.Test.YtfkmfobbgoflgaaGreatDoorAG
set_option linter.unusedSimpArgs false
set_option linter.unusedVariables false
set_option maxRecDepth 100000
namespace Go.Proofs.Dev
open Go.Lib
theorem Z5 : ∀ {s : List UInt8} {c : UInt8}, indexByte s c = -1 → DW c s = [s]
 | [], c, _ => rfl
 | b :: l, c, h => by
   unfold indexByte at h
   by_cases hb : b = c
   ·simp [hb] at h
   ·rw [if_neg (by simpa using hb)] at h
    have hl : indexByte l c = -1 := by
     by_cases h1 : (indexByte l c == -1) = true
     ·simpa using h1
     ·rw [if_neg h1] at h
      have := indexByte_ge l c
      omega
    rw [DW, if_neg hb, Z5 hl]
theorem Mk (c : UInt8) : ∀ s : List UInt8, ∃ p ps, DW c s = p :: ps
 | [] => ⟨_, _, rfl⟩
 | x :: s => by
   rw [DW]
   split
   ·exact ⟨_, _, rfl⟩
   ·obtain ⟨p, ps, h⟩ := Mk c s
    rw [h]
    exact ⟨_, _, rfl⟩
theorem dB : ∀ {s : List UInt8} {c : UInt8} {i : Nat}, indexByte s c = i → DW c s = s.take i :: DW c (s.drop (i + 1))
 | [], c, i, h => by simp [indexByte] at h
 | b :: l, c, i, h => by
   unfold indexByte at h
   by_cases hb : b = c
   ·rw [if_pos (by simpa using hb)] at h
    have : i = 0 := by omega
    subst this
    rw [DW, if_pos hb]
    simp
   ·rw [if_neg (by simpa using hb)] at h
    by_cases h1 : (indexByte l c == -1) = true
    ·rw [if_pos h1] at h; omega
    ·rw [if_neg h1] at h
     have := indexByte_ge l c
     have h2 : indexByte l c ≠ -1 := by simpa using h1
     obtain ⟨j, hj⟩ : ∃ j : Nat, indexByte l c = j := ⟨(indexByte l c).toNat, by omega⟩
     have hi : i = j + 1 := by omega
     subst hi
     rw [DW, if_neg hb, dB hj]
     simp
theorem X3 (c : UInt8) : ∀ (n : Nat) (s : List UInt8), s.length ≤ n → splitK [c] 0 (count s [c]) s = DW c s
 | n, s, hn => by
   by_cases h : index s [c] = -1
   ·rw [count_miss h, splitK, Z5 (by rw [← index_one]; exact h)]
   ·have h1 := indexByte_ge s c
    rw [index_one] at h
    obtain ⟨i, hi⟩ : ∃ i : Nat, indexByte s c = i := ⟨(indexByte s c).toNat, by omega⟩
    have hi' : index s [c] = i := by rw [index_one]; exact hi
    have hlt : i < s.length := by
     have := (indexByte_some hi).1
     exact (List.getElem?_eq_some_iff.1 this).1
    rw [count_hit (by simp) hi', Nat.add_comm, splitK, if_neg (by rw [hi']; simp), hi', dB hi]
    have e : ((i : Nat) : Int).toNat = i := by omega
    rw [e, Nat.add_zero]
    match n, hn with
    | 0, hn => omega
    | n + 1, hn =>
      have := X3 c n (s.drop (i + [c].length)) (by simp; omega)
      rw [this]
      rfl
theorem bH (c : UInt8) (s : List UInt8) : (splitB ⟨[c].toArray⟩ 0 (countB ⟨s.toArray⟩ ⟨[c].toArray⟩) ⟨s.toArray⟩).map Value.string = (DW c s).map tx := by
 have h := splitB_data ⟨[c].toArray⟩ 0 (countB ⟨s.toArray⟩ ⟨[c].toArray⟩) ⟨s.toArray⟩
 have h2 : splitK [c] 0 (count s [c]) s = DW c s := X3 c s.length s (Nat.le_refl _)
 have h3 : (splitB ⟨[c].toArray⟩ 0 (countB ⟨s.toArray⟩ ⟨[c].toArray⟩) ⟨s.toArray⟩).map (·.data.toList) = DW c s := h.trans h2
 rw [← h3, List.map_map]
 apply List.map_congr_left
 intro b _
 show Value.string b = Value.string ⟨b.data.toList.toArray⟩
 rw [mk_data]
def TY (l : List UInt8) : Int := match atoiAll l with
 | .ok v => v
 | .range => atoiSat l
 | _ => 0
theorem Pd (c : UInt8) : ∀ (s : List UInt8) (p : List UInt8), p ∈ DW c s → p.length ≤ s.length
 | [], p, h => by simp [DW] at h; simp [h]
 | x :: s, p, h => by
   rw [DW] at h
   split at h
   ·rcases List.mem_cons.1 h with rfl | h
    ·simp
    ·have := Pd c s p h; simp; omega
   ·obtain ⟨q, qs, e⟩ := Mk c s
    rw [e] at h
    rcases List.mem_cons.1 h with rfl | h
    ·have := Pd c s q (by rw [e]; simp); simp; omega
    ·have := Pd c s p (by rw [e]; simp [h]); simp; omega
theorem Z6 (c : UInt8) (s : List UInt8) (i : Nat) : (nth (DW c s) i).length ≤ s.length := by
 unfold nth
 by_cases h : i < (DW c s).length
 ·simp only [List.getD_eq_getElem?_getD, List.getElem?_eq_getElem h, Option.getD_some]
  exact Pd c s _ (List.getElem_mem h)
 ·simp [List.getElem?_eq_none (show (DW c s).length ≤ i by omega)]
open Go.RowKit
theorem EH {w w' : World} (S : List Nat) (h : Below w.heap.size w w') : Kept w.heap.size S w w' := by
 refine ⟨h.os, h.tape, h.output, h.size, fun k hk _ => h.block k hk, ?_⟩
 intro b p k hr j hj
 obtain ⟨⟨u, hu⟩, hf⟩ := hr j hj
 have hlt : b < w.heap.size := block_lt_of_cell hu
 have hb := h.block b hlt
 rw [World.cell?_of_block (w := w) (a := ⟨b, p + j, none⟩) hb, World.frozen?_of_block (w := w) (a := ⟨b, p + j, none⟩) hb]
 exact ⟨⟨u, hu⟩, hf⟩
theorem nI {C : Ctx} : ∀ {xs : List Value} {S : List Nat} {us : List Value}, RL C (xs.map AV.v) S us → S = [] ∧ us = xs
 | [], S, us, h => by
   have h' : RL C [] S us := h
   rw [RL] at h'
   exact h'
 | x :: xs, S, us, h => by
   have h' : RL C (.v x :: xs.map AV.v) S us := h
   rw [RL] at h'
   obtain ⟨S1, S2, u, us', rfl, rfl, h1, h2⟩ := h'
   rw [R] at h1
   obtain ⟨rfl, rfl⟩ := nI h2
   rw [h1.1, h1.2]
   exact ⟨rfl, rfl⟩
theorem iq {C : Ctx} : ∀ xs : List Value, RL C (xs.map fun _ => AV.bot) [] xs
 | [] => by show RL C [] [] []; rw [RL]; exact ⟨rfl, rfl⟩
 | x :: xs => by
   show RL C (.bot :: xs.map fun _ => AV.bot) [] (x :: xs)
   rw [RL]; exact ⟨[], [], _, _, rfl, rfl, by rw [R], iq xs⟩
theorem Z7 {P : Program} {f : Nat} {xs : List Value} {r : AV} (h : ∀ (w : World) (S : List Nat) (forb : Nat → Prop), GB w S forb → Calls P f xs.toArray w fun e w' => ∃ v S', e = .returned v ∧ R (WP w' S' forb) r S' v ∧ S'.Nodup ∧ (∀ x ∈ S', x < w'.heap.size ∧ w.heap.size ≤ x) ∧ Kept w.heap.size [] w w') :
  SoundAt P f (xs.map AV.v) r (xs.map fun _ => .bot) := by
 intro w forb us S hr hnd hlt hforb
 obtain ⟨rfl, rfl⟩ := nI hr
 refine (h w [] forb hforb.2).mono ?_
 rintro e w' ⟨v, S', rfl, h1, h2, h3, h4⟩
 refine ⟨v, S', rfl, ?_, h2, fun x hx => ⟨(h3 x hx).1, .inl (h3 x hx).2⟩, h4⟩
 rw [RL]
 exact ⟨S', [], v, _, by simp, rfl, h1, iq _⟩
def I9 (c : UInt8) : List (List UInt8) → List UInt8
 | [] => []
 | [p] => p
 | p :: q :: ps => p ++ c :: I9 c (q :: ps)
theorem Q7 (c : UInt8) (p : List UInt8) {ps : List (List UInt8)} (h : ps ≠ []) : I9 c (p :: ps) = p ++ c :: I9 c ps := by
 cases ps with
 | nil => exact absurd rfl h
 | cons q ps => rfl
def sgC (cs : List Bool) (ds : List Int) (k : Nat) : UInt8 := if atb cs k then b8 (48 + ati ds k) else 46
def Up (W : Nat) (cs : List Bool) (ds : List Int) (y : Nat) : List UInt8 := (List.range W).map fun x => sgC cs ds (y * W + x)
def KZ (W : Nat) (cs : List Bool) (ds : List Int) : Nat → List (List UInt8)
 | 0 => []
 | y + 1 => Up W cs ds y :: KZ W cs ds y
def bI (W T : Int) (cs : List Bool) (ds : List Int) : List UInt8 := if (A3 W T cs && DV cs ds) = true then I9 47 (KZ W.toNat cs ds T.toNat) else []
@[simp] theorem kE (W : Nat) (cs : List Bool) (ds : List Int) (y : Nat) : (Up W cs ds y).length = W := by simp [Up]
@[simp] theorem JC (W : Nat) (cs : List Bool) (ds : List Int) : ∀ n, (KZ W cs ds n).length = n
  | 0 => rfl
  | n + 1 => by simp [KZ, JC W cs ds n]
theorem gQ {n : Int} (_h0 : 0 ≤ n) (h1 : n < 256) : (b8 n).toNat = n.toNat := by
 show (UInt8.ofNat n.toNat).toNat = _
 simp
 omega
theorem dC {W T y x : Nat} (hy : y < T) (hx : x < W) : y * W + x < T * W := by
 have : (y + 1) * W ≤ T * W := Nat.mul_le_mul_right _ hy
 rw [Nat.succ_mul] at this
 omega
def Uz (sg : Nat → UInt8) (W y : Nat) : List UInt8 := (List.range W).map fun x => sg (y * W + x)
def MN (sg : Nat → UInt8) (W : Nat) : Nat → List (List UInt8)
 | 0 => []
 | y + 1 => Uz sg W y :: MN sg W y
@[simp] theorem kF (sg : Nat → UInt8) (W y : Nat) : (Uz sg W y).length = W := by simp [Uz]
@[simp] theorem JD (sg : Nat → UInt8) (W : Nat) : ∀ n, (MN sg W n).length = n
  | 0 => rfl
  | n + 1 => by simp [MN, JD sg W n]
theorem bJ (W : Nat) (sg : Nat → UInt8) {n : Nat} (h : 0 < n) : I9 47 (MN sg W (n + 1)) = Uz sg W n ++ 47 :: I9 47 (MN sg W n) := by
 rw [MN, Q7 47 _ (fun e => by have := congrArg List.length e; simp at this; omega)]
theorem X4 {W : Nat} (sg : Nat → UInt8) : ∀ n : Nat, (I9 47 (MN sg W n)).length ≤ n * (W + 1)
 | 0 => by simp [MN, I9]
 | 1 => by show (Uz sg W 0).length ≤ _; simp
 | n + 2 => by
   rw [bJ W sg (by omega)]
   have := X4 sg (n + 1) (W := W)
   have e : (n + 2) * (W + 1) = (n + 1) * (W + 1) + (W + 1) := by rw [show n + 2 = n + 1 + 1 by omega, Nat.succ_mul]
   simp
   omega
def pr (w : Int) : UInt8 := if w = 1 then 101 else if w = 2 then 110 else if w = 3 then 119 else if w = 4 then 115 else 35
def sgW (cs : List Bool) (ls : List Int) (k : Nat) : UInt8 := if atb cs k then pr (ati ls k) else 46
def dD (W T : Int) (cs : List Bool) (ls : List Int) : List UInt8 := I9 47 (MN (sgW cs ls) W.toNat T.toNat)
def Z8 (ls : List Int) : Prop := ∀ k : Int, 0 ≤ k → k < ls.length → 0 ≤ ati ls k ∧ ati ls k ≤ 4
theorem dE {W T : Int} {cs : List Bool} {ls : List Int} (h : AU W T cs ls = true) : Z8 ls := by
 intro k h0 h1
 simp only [AU, Bool.and_eq_true, decide_eq_true_eq, CI] at h
 have := h.2 k.toNat (by omega)
 rw [show ((k.toNat : Nat) : Int) = k by omega] at this
 simp only [ID, decide_eq_true_eq] at this
 omega
theorem gR : ∀ k : _root_.Fin 5, ∀ s : _root_.Fin 100, ∀ w : _root_.Fin 5, (if Bq ((k.val : Int), (s.val : Int), (w.val : Int)) then (decide ((Az ((k.val : Int), (s.val : Int), (w.val : Int))).getLast? ≠ some 32) && decide ((Az ((k.val : Int), (s.val : Int), (w.val : Int))).length ≤ 12)) else true) = true := by decide +kernel
theorem dF {d : Int × Int × Int} (h : Bq d = true) : (Az d).getLast? ≠ some 32 ∧ (Az d).length ≤ 12 := by
 obtain ⟨k, s, w⟩ := d
 obtain ⟨k', s', w', rfl, rfl, rfl⟩ := Pb h
 have := gR k' s' w'
 rw [if_pos h] at this
 simpa using this
theorem Sv (d : Int × Int × Int) : (Az d).length ≤ 12 := by
 cases h : Bq d with
 | true => exact (dF h).2
 | false => rw [(KY d).2 h]; simp
def nl : List UInt8 → Option Nat
 | [] => none
 | c :: t => if c = 10 then some 0 else (nl t).map (· + 1)
theorem bK : ∀ {t : List UInt8} {i : Nat}, nl t = some i → i < t.length
 | [], i, h => by simp [nl] at h
 | c :: t, i, h => by
   simp only [nl] at h
   split at h
   ·simp at h; subst h; simp
   ·simp only [Option.map_eq_some_iff] at h
    obtain ⟨j, hj, rfl⟩ := h
    have := bK hj
    simp; omega
theorem dG : ∀ {t : List UInt8}, (∀ j : Nat, t[j]? ≠ some 10) → nl t = none
 | [], _ => rfl
 | c :: t, h => by
   have h0 : c ≠ 10 := by have := h 0; simpa using this
   rw [nl, if_neg h0, dG (t := t) (fun j => by have := h (j + 1); simpa using this)]
   rfl
theorem nJ : ∀ {t : List UInt8} {i : Nat}, t[i]? = some 10 → (∀ j : Nat, j < i → t[j]? ≠ some 10) → nl t = some i
 | [], i, h, _ => by simp at h
 | c :: t, 0, h, _ => by
   have : c = 10 := by simpa using h
   rw [nl, if_pos this]
 | c :: t, i + 1, h, h2 => by
   have h0 : c ≠ 10 := by have := h2 0 (by omega); simpa using this
   rw [nl, if_neg h0, nJ (t := t) (i := i) (by simpa using h) (fun j hj => by have := h2 (j + 1) (by omega); simpa using this)]
   rfl
theorem Wf : ∀ t : List UInt8, Go.Lib.indexByte t 10 = match nl t with
  | some i => (i : Int)
  | none => -1
 | [] => rfl
 | c :: t => by
   rw [Go.Lib.indexByte, nl, Wf t]
   by_cases h : c = 10
   ·simp [h]
   ·rw [if_neg (by simpa using h), if_neg h]
    cases nl t with
    | none => rfl
    | some i =>
      have : ¬ ((i : Int) == -1) = true := by simp
      simp
theorem Y4 {t : List UInt8} {i : Nat} (h : nl t = some i) : Go.Lib.cut t [10] = (t.take i, t.drop (i + 1), true) := by
 have e : Go.Lib.index t [10] = i := by rw [Go.Lib.index_one, Wf, h]
 rw [Go.Lib.cut, e, if_pos (by omega)]
 simp
theorem Y5 {t : List UInt8} (h : nl t = none) : Go.Lib.cut t [10] = (t, [], false) := by
 have e : Go.Lib.index t [10] = -1 := by rw [Go.Lib.index_one, Wf, h]
 rw [Go.Lib.cut, e, if_neg (by omega)]
def jr (t : List UInt8) : List (Int × Int × Int) × Nat :=
 match h : nl t with
 | none => ([], 0)
 | some i => if Bo (t.take i) then (Cc (t.take i) :: (jr (t.drop (i + 1))).1, i + 1 + (jr (t.drop (i + 1))).2) else ([], 0)
termination_by t.length
decreasing_by all_goals (have := bK h; simp; omega)
theorem Q8 {t : List UInt8} (h : nl t = none) : jr t = ([], 0) := by
 rw [jr]
 split
 ·rfl
 ·rename_i i hi; rw [h] at hi; cases hi
theorem dH {t : List UInt8} {i : Nat} (h : nl t = some i) (hr : Bo (t.take i) = false) : jr t = ([], 0) := by
 rw [jr]
 split
 ·rfl
 ·rename_i j hj; rw [h] at hj; cases hj; simp [hr]
theorem Vx {t : List UInt8} {i : Nat} (h : nl t = some i) (hr : Bo (t.take i) = true) : jr t = (Cc (t.take i) :: (jr (t.drop (i + 1))).1, i + 1 + (jr (t.drop (i + 1))).2) := by
 rw [jr]
 split
 ·rename_i hj; rw [h] at hj; cases hj
 ·rename_i j hj; rw [h] at hj; cases hj; simp [hr]
theorem kG : ∀ (n : Nat) (t : List UInt8), t.length ≤ n → (jr t).2 ≤ t.length ∧ (jr t).1.length ≤ t.length
 | n, t, hn => by
   cases h : nl t with
   | none => rw [Q8 h]; simp
   | some i =>
     have hi := bK h
     cases hr : Bo (t.take i) with
     | false => rw [dH h hr]; simp
     | true =>
       rw [Vx h hr]
       match n, hn with
       | 0, hn => omega
       | n + 1, hn =>
         have := kG n (t.drop (i + 1)) (by simp; omega)
         simp only [List.length_drop, List.length_cons] at this ⊢
         omega
end Go.Proofs.Dev
