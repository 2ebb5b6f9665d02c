/- Contracts of the functions of the program over slots and rows, each proved against the program itself; no condition beyond those that each theorem names. -/
import Derived.Test.YtfkmfobbgoflgaaGreatDoorAI
import Derived.Lib.Split
import Derived.Lib.SplitLaws
import Derived.Lib.AtoiAll
import Derived.Test.YtfkmfobbgoflgaaGreatDoorAH
import Derived.Test.YtfkmfobbgoflgaaGreatDoorAG
set_option linter.unusedSimpArgs false
set_option linter.unusedVariables false
set_option maxRecDepth 100000
namespace Go.Proofs.Dev
open Go.Lib
theorem aI : ∀ {s : List UInt8} {c : UInt8}, indexByte s c = -1 → Db c s = [s]
 | [], c, _ => rfl
 | b :: l, c, h => by
   unfold indexByte at h
   by_cases hb : b = c
   ·simp [hb] at h
   ·rw [if_neg (by simpa using hb)] at h
    have hl : indexByte l c = -1 := by
     by_cases h1 : (indexByte l c == -1) = true
     ·simpa using h1
     ·rw [if_neg h1] at h
      have := indexByte_ge l c
      omega
    rw [Db, if_neg hb, aI hl]
theorem MS (c : UInt8) : ∀ s : List UInt8, ∃ p ps, Db c s = p :: ps
 | [] => ⟨_, _, rfl⟩
 | x :: s => by
   rw [Db]
   split
   ·exact ⟨_, _, rfl⟩
   ·obtain ⟨p, ps, h⟩ := MS c s
    rw [h]
    exact ⟨_, _, rfl⟩
theorem ct : ∀ {s : List UInt8} {c : UInt8} {i : Nat}, indexByte s c = i → Db c s = s.take i :: Db c (s.drop (i + 1))
 | [], c, i, h => by simp [indexByte] at h
 | b :: l, c, i, h => by
   unfold indexByte at h
   by_cases hb : b = c
   ·rw [if_pos (by simpa using hb)] at h
    have : i = 0 := by omega
    subst this
    rw [Db, if_pos hb]
    simp
   ·rw [if_neg (by simpa using hb)] at h
    by_cases h1 : (indexByte l c == -1) = true
    ·rw [if_pos h1] at h; omega
    ·rw [if_neg h1] at h
     have := indexByte_ge l c
     have h2 : indexByte l c ≠ -1 := by simpa using h1
     obtain ⟨j, hj⟩ : ∃ j : Nat, indexByte l c = j := ⟨(indexByte l c).toNat, by omega⟩
     have hi : i = j + 1 := by omega
     subst hi
     rw [Db, if_neg hb, ct hj]
     simp
theorem YL (c : UInt8) : ∀ (n : Nat) (s : List UInt8), s.length ≤ n → splitK [c] 0 (count s [c]) s = Db c s
 | n, s, hn => by
   by_cases h : index s [c] = -1
   ·rw [count_miss h, splitK, aI (by rw [← index_one]; exact h)]
   ·have h1 := indexByte_ge s c
    rw [index_one] at h
    obtain ⟨i, hi⟩ : ∃ i : Nat, indexByte s c = i := ⟨(indexByte s c).toNat, by omega⟩
    have hi' : index s [c] = i := by rw [index_one]; exact hi
    have hlt : i < s.length := by
     have := (indexByte_some hi).1
     exact (List.getElem?_eq_some_iff.1 this).1
    rw [count_hit (by simp) hi', Nat.add_comm, splitK, if_neg (by rw [hi']; simp), hi', ct hi]
    have e : ((i : Nat) : Int).toNat = i := by omega
    rw [e, Nat.add_zero]
    match n, hn with
    | 0, hn => omega
    | n + 1, hn =>
      have := YL c n (s.drop (i + [c].length)) (by simp; omega)
      rw [this]
      rfl
theorem bM (c : UInt8) (s : List UInt8) : (splitB ⟨[c].toArray⟩ 0 (countB ⟨s.toArray⟩ ⟨[c].toArray⟩) ⟨s.toArray⟩).map Value.string = (Db c s).map tx := by
 have h := splitB_data ⟨[c].toArray⟩ 0 (countB ⟨s.toArray⟩ ⟨[c].toArray⟩) ⟨s.toArray⟩
 have h2 : splitK [c] 0 (count s [c]) s = Db c s := YL c s.length s (Nat.le_refl _)
 have h3 : (splitB ⟨[c].toArray⟩ 0 (countB ⟨s.toArray⟩ ⟨[c].toArray⟩) ⟨s.toArray⟩).map (·.data.toList) = Db c s := h.trans h2
 rw [← h3, List.map_map]
 apply List.map_congr_left
 intro b _
 show Value.string b = Value.string ⟨b.data.toList.toArray⟩
 rw [mk_data]
def Tk (l : List UInt8) : Int := match atoiAll l with
 | .ok v => v
 | .range => atoiSat l
 | _ => 0
theorem Pf (c : UInt8) : ∀ (s : List UInt8) (p : List UInt8), p ∈ Db c s → p.length ≤ s.length
 | [], p, h => by simp [Db] at h; simp [h]
 | x :: s, p, h => by
   rw [Db] at h
   split at h
   ·rcases List.mem_cons.1 h with rfl | h
    ·simp
    ·have := Pf c s p h; simp; omega
   ·obtain ⟨q, qs, e⟩ := MS c s
    rw [e] at h
    rcases List.mem_cons.1 h with rfl | h
    ·have := Pf c s q (by rw [e]; simp); simp; omega
    ·have := Pf c s p (by rw [e]; simp [h]); simp; omega
theorem aJ (c : UInt8) (s : List UInt8) (i : Nat) : (nth (Db c s) i).length ≤ s.length := by
 unfold nth
 by_cases h : i < (Db c s).length
 ·simp only [List.getD_eq_getElem?_getD, List.getElem?_eq_getElem h, Option.getD_some]
  exact Pf c s _ (List.getElem_mem h)
 ·simp [List.getElem?_eq_none (show (Db c s).length ≤ i by omega)]
open Go.RowKit
theorem Hb {w w' : World} (S : List Nat) (h : Below w.heap.size w w') : Kept w.heap.size S w w' := by
 refine ⟨h.os, h.tape, h.output, h.size, fun k hk _ => h.block k hk, ?_⟩
 intro b p k hr j hj
 obtain ⟨⟨u, hu⟩, hf⟩ := hr j hj
 have hlt : b < w.heap.size := block_lt_of_cell hu
 have hb := h.block b hlt
 rw [World.cell?_of_block (w := w) (a := ⟨b, p + j, none⟩) hb, World.frozen?_of_block (w := w) (a := ⟨b, p + j, none⟩) hb]
 exact ⟨⟨u, hu⟩, hf⟩
theorem l8 {C : Ctx} : ∀ {xs : List Value} {S : List Nat} {us : List Value}, RL C (xs.map AV.v) S us → S = [] ∧ us = xs
 | [], S, us, h => by
   have h' : RL C [] S us := h
   rw [RL] at h'
   exact h'
 | x :: xs, S, us, h => by
   have h' : RL C (.v x :: xs.map AV.v) S us := h
   rw [RL] at h'
   obtain ⟨S1, S2, u, us', rfl, rfl, h1, h2⟩ := h'
   rw [R] at h1
   obtain ⟨rfl, rfl⟩ := l8 h2
   rw [h1.1, h1.2]
   exact ⟨rfl, rfl⟩
theorem gp {C : Ctx} : ∀ xs : List Value, RL C (xs.map fun _ => AV.bot) [] xs
 | [] => by show RL C [] [] []; rw [RL]; exact ⟨rfl, rfl⟩
 | x :: xs => by
   show RL C (.bot :: xs.map fun _ => AV.bot) [] (x :: xs)
   rw [RL]; exact ⟨[], [], _, _, rfl, rfl, by rw [R], gp xs⟩
theorem cw {P : Program} {f : Nat} {xs : List Value} {r : AV} (h : ∀ (w : World) (S : List Nat) (forb : Nat → Prop), GB w S forb → Calls P f xs.toArray w fun e w' => ∃ v S', e = .returned v ∧ R (Xt w' S' forb) r S' v ∧ S'.Nodup ∧ (∀ x ∈ S', x < w'.heap.size ∧ w.heap.size ≤ x) ∧ Kept w.heap.size [] w w') :
  SoundAt P f (xs.map AV.v) r (xs.map fun _ => .bot) := by
 intro w forb us S hr hnd hlt hforb
 obtain ⟨rfl, rfl⟩ := l8 hr
 refine (h w [] forb hforb.2).mono ?_
 rintro e w' ⟨v, S', rfl, h1, h2, h3, h4⟩
 refine ⟨v, S', rfl, ?_, h2, fun x hx => ⟨(h3 x hx).1, .inl (h3 x hx).2⟩, h4⟩
 rw [RL]
 exact ⟨S', [], v, _, by simp, rfl, h1, gp _⟩
def Eo (c : UInt8) : List (List UInt8) → List UInt8
 | [] => []
 | [p] => p
 | p :: q :: ps => p ++ c :: Eo c (q :: ps)
theorem RP (c : UInt8) (p : List UInt8) {ps : List (List UInt8)} (h : ps ≠ []) : Eo c (p :: ps) = p ++ c :: Eo c ps := by
 cases ps with
 | nil => exact absurd rfl h
 | cons q ps => rfl
def sgC (cs : List Bool) (ds : List Int) (k : Nat) : UInt8 := if atb cs k then b8 (48 + ati ds k) else 46
def MT (W : Nat) (cs : List Bool) (ds : List Int) (y : Nat) : List UInt8 := (List.range W).map fun x => sgC cs ds (y * W + x)
def HC (W : Nat) (cs : List Bool) (ds : List Int) : Nat → List (List UInt8)
 | 0 => []
 | y + 1 => MT W cs ds y :: HC W cs ds y
def Tl (W T : Int) (cs : List Bool) (ds : List Int) : List UInt8 := if (A0 W T cs && Cg cs ds) = true then Eo 47 (HC W.toNat cs ds T.toNat) else []
@[simp] theorem jT (W : Nat) (cs : List Bool) (ds : List Int) (y : Nat) : (MT W cs ds y).length = W := by simp [MT]
@[simp] theorem JD (W : Nat) (cs : List Bool) (ds : List Int) : ∀ n, (HC W cs ds n).length = n
  | 0 => rfl
  | n + 1 => by simp [HC, JD W cs ds n]
theorem fc {n : Int} (_h0 : 0 ≤ n) (h1 : n < 256) : (b8 n).toNat = n.toNat := by
 show (UInt8.ofNat n.toNat).toNat = _
 simp
 omega
theorem Wn {W T y x : Nat} (hy : y < T) (hx : x < W) : y * W + x < T * W := by
 have : (y + 1) * W ≤ T * W := Nat.mul_le_mul_right _ hy
 rw [Nat.succ_mul] at this
 omega
def Nl (sg : Nat → UInt8) (W y : Nat) : List UInt8 := (List.range W).map fun x => sg (y * W + x)
def Hz (sg : Nat → UInt8) (W : Nat) : Nat → List (List UInt8)
 | 0 => []
 | y + 1 => Nl sg W y :: Hz sg W y
@[simp] theorem jU (sg : Nat → UInt8) (W y : Nat) : (Nl sg W y).length = W := by simp [Nl]
@[simp] theorem JE (sg : Nat → UInt8) (W : Nat) : ∀ n, (Hz sg W n).length = n
  | 0 => rfl
  | n + 1 => by simp [Hz, JE sg W n]
theorem cy {W x : Nat} (sg : Nat → UInt8) (y : Nat) (h : x < W) : (Nl sg W y).take (x + 1) = (Nl sg W y).take x ++ [sg (y * W + x)] := by
 rw [List.take_succ_eq_append_getElem (by simp [h])]
 simp [Nl]
theorem WA (W : Nat) (sg : Nat → UInt8) {n : Nat} (h : 0 < n) : Eo 47 (Hz sg W (n + 1)) = Nl sg W n ++ 47 :: Eo 47 (Hz sg W n) := by
 rw [Hz, RP 47 _ (fun e => by have := congrArg List.length e; simp at this; omega)]
theorem Tm {W : Nat} (sg : Nat → UInt8) : ∀ n : Nat, (Eo 47 (Hz sg W n)).length ≤ n * (W + 1)
 | 0 => by simp [Hz, Eo]
 | 1 => by show (Nl sg W 0).length ≤ _; simp
 | n + 2 => by
   rw [WA W sg (by omega)]
   have := Tm sg (n + 1) (W := W)
   have e : (n + 2) * (W + 1) = (n + 1) * (W + 1) + (W + 1) := by rw [show n + 2 = n + 1 + 1 by omega, Nat.succ_mul]
   simp
   omega
def nH (w : Int) : UInt8 := if w = 1 then 101 else if w = 2 then 110 else if w = 3 then 119 else if w = 4 then 115 else 35
def sgW (cs : List Bool) (ls : List Int) (k : Nat) : UInt8 := if atb cs k then nH (ati ls k) else 46
def VA (W T : Int) (cs : List Bool) (ls : List Int) : List UInt8 := Eo 47 (Hz (sgW cs ls) W.toNat T.toNat)
def YM (ls : List Int) : Prop := ∀ k : Int, 0 ≤ k → k < ls.length → 0 ≤ ati ls k ∧ ati ls k ≤ 4
theorem YN {W T : Int} {cs : List Bool} {ls : List Int} (h : AO W T cs ls = true) : YM ls := by
 intro k h0 h1
 simp only [AO, Bool.and_eq_true, decide_eq_true_eq, Co] at h
 have := h.2 k.toNat (by omega)
 rw [show ((k.toNat : Nat) : Int) = k by omega] at this
 simp only [J5, decide_eq_true_eq] at this
 omega
end Go.Proofs.Dev
