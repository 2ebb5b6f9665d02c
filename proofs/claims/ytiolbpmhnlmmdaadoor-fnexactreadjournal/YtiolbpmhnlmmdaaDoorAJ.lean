/- Contracts of the functions of the program over slots and rows, each proved against the program itself; no condition beyond those that each theorem names. -/
import Derived.Test.YtiolbpmhnlmmdaaDoorAI
import Derived.Test.YtiolbpmhnlmmdaaDoorAH
import Derived.Test.YtiolbpmhnlmmdaaDoorProg

set_option linter.unusedSimpArgs false
set_option linter.unusedVariables false

namespace Go.Proofs.Dev
open Go.RowKit
set_option linter.unusedSimpArgs false
set_option maxRecDepth 100000

theorem kept_of_below {w w' : World} (S : List Nat) (h : Below w.heap.size w w') : Kept w.heap.size S w w' := by
  refine ⟨h.os, h.tape, h.output, h.size, fun k hk _ => h.block k hk, ?_⟩
  intro b p k hr j hj
  obtain ⟨⟨u, hu⟩, hf⟩ := hr j hj
  have hlt : b < w.heap.size := block_lt_of_cell hu
  have hb := h.block b hlt
  rw [World.cell?_of_block (w := w) (a := ⟨b, p + j, none⟩) hb, World.frozen?_of_block (w := w) (a := ⟨b, p + j, none⟩) hb]
  exact ⟨⟨u, hu⟩, hf⟩

theorem RL_vs {C : Ctx} : ∀ {xs : List Value} {S : List Nat} {us : List Value}, RL C (xs.map AV.v) S us → S = [] ∧ us = xs
  | [], S, us, h => by
    have h' : RL C [] S us := h
    rw [RL] at h'
    exact h'
  | x :: xs, S, us, h => by
    have h' : RL C (.v x :: xs.map AV.v) S us := h
    rw [RL] at h'
    obtain ⟨S1, S2, u, us', rfl, rfl, h1, h2⟩ := h'
    rw [R] at h1
    obtain ⟨rfl, rfl⟩ := RL_vs h2
    rw [h1.1, h1.2]
    exact ⟨rfl, rfl⟩

theorem RL_bts {C : Ctx} : ∀ xs : List Value, RL C (xs.map fun _ => AV.bot) [] xs
  | [] => by show RL C [] [] []; rw [RL]; exact ⟨rfl, rfl⟩
  | x :: xs => by
    show RL C (.bot :: xs.map fun _ => AV.bot) [] (x :: xs)
    rw [RL]; exact ⟨[], [], _, _, rfl, rfl, by rw [R], RL_bts xs⟩

theorem of_lib {P : Program} {f : Nat} {xs : List Value} {r : AV} (h : ∀ (w : World) (S : List Nat) (forb : Nat → Prop), GB w S forb → Calls P f xs.toArray w fun e w' => ∃ v S', e = .returned v ∧ R (cout w' S' forb) r S' v ∧ S'.Nodup ∧ (∀ x ∈ S', x < w'.heap.size ∧ w.heap.size ≤ x) ∧ Kept w.heap.size [] w w') :
    SoundAt P f (xs.map AV.v) r (xs.map fun _ => .bot) := by
  intro w forb us S hr hnd hlt hforb
  obtain ⟨rfl, rfl⟩ := RL_vs hr
  refine (h w [] forb hforb.2).mono ?_
  rintro e w' ⟨v, S', rfl, h1, h2, h3, h4⟩
  refine ⟨v, S', rfl, ?_, h2, fun x hx => ⟨(h3 x hx).1, .inl (h3 x hx).2⟩, h4⟩
  rw [RL]
  exact ⟨S', [], v, _, by simp, rfl, h1, RL_bts _⟩

theorem maxLen_cell {w : World} {S : List Nat} {forb : Nat → Prop} (h : GB w S forb) : ∃ m : Int, w.cell? ⟨1, 0, none⟩ = some (.int .i64 m) := by
  obtain ⟨u, h1, m, rfl⟩ := h.cell (g := 1) (p := intP) (by simp [gps])
  exact ⟨m, h1⟩

theorem s_strings_Index (s t : List UInt8) (hs : s.length < 2 ^ 30) : SoundAt Tryd.prog 60 [.v (tx s), .v (tx t)] (.v (.int .i64 (Go.Lib.index s t))) [.bot, .bot] := by
  refine of_lib (xs := [tx s, tx t]) fun w S forb hg => ?_
  obtain ⟨m, hm⟩ := maxLen_cell hg
  refine (Tryd.strings_Index ⟨s.toArray⟩ ⟨t.toArray⟩ m w (by simp; omega) hm).mono ?_
  rintro e w' ⟨rfl, rfl⟩
  exact ⟨_, [], rfl, by rw [R]; exact ⟨rfl, rfl⟩, by simp, by simp, Kept.refl _ _ _⟩

theorem s_strings_Cut (s : List UInt8) (c : UInt8) (hs : s.length < 2 ^ 30) : SoundAt Tryd.prog 61 [.v (tx s), .v (tx [c])] (.tup [.v (tx (Go.Lib.cut s [c]).1), .v (tx (Go.Lib.cut s [c]).2.1), .v (.bool (Go.Lib.cut s [c]).2.2)]) [.bot, .bot] := by
  refine of_lib (xs := [tx s, tx [c]]) fun w S forb hg => ?_
  obtain ⟨m, hm⟩ := maxLen_cell hg
  refine (Tryd.strings_Cut ⟨s.toArray⟩ ⟨[c].toArray⟩ m w (by simp; omega) hm).mono ?_
  rintro e w' ⟨rfl, n, rfl⟩
  refine ⟨_, [], rfl, ?_, by simp, by simp, ⟨rfl, rfl, rfl, Nat.le_refl _, fun _ _ _ => rfl, fun _ _ _ h => h⟩⟩
  rw [R]
  refine ⟨[_, _, _], rfl, ?_⟩
  rw [RL]; refine ⟨[], [], _, _, rfl, rfl, by rw [R]; exact ⟨rfl, rfl⟩, ?_⟩
  rw [RL]; refine ⟨[], [], _, _, rfl, rfl, by rw [R]; exact ⟨rfl, rfl⟩, ?_⟩
  rw [RL]; exact ⟨[], [], _, _, rfl, rfl, by rw [R]; exact ⟨rfl, rfl⟩, by rw [RL]; exact ⟨rfl, rfl⟩⟩

theorem s_strings_Split (s : List UInt8) (c : UInt8) (hs : s.length < 2 ^ 30) : SoundAt Tryd.prog 57 [.v (tx s), .v (tx [c])] (.os 1 (txs (cutL c s))) [.bot, .bot] := by
  refine of_lib (xs := [tx s, tx [c]]) fun w S forb hg => ?_
  obtain ⟨m, hm⟩ := maxLen_cell hg
  refine (Tryd.strings_Split ⟨s.toArray⟩ ⟨[c].toArray⟩ m w (by simp; omega) hm (by simp)).mono ?_
  rintro e w' ⟨rfl, rfl⟩
  have hb := splitB_cut c s
  have hl := Go.Lib.splitB_all ⟨[c].toArray⟩ (by simp) 0 _ ⟨s.toArray⟩ rfl
  have hlen : Go.Lib.countB ⟨s.toArray⟩ ⟨[c].toArray⟩ + 1 = (cutL c s).length := by
    have := congrArg List.length hb
    simp only [List.length_map] at this
    rw [← this, hl]
  rw [hb, hlen]
  have hcell : ∀ j u, ((cutL c s).map tx)[j]? = some u → (w.alloc (.cells ((cutL c s).map tx).toArray 9)).cell? ⟨w.heap.size, 0 + j, none⟩ = some u := by
    intro j u hj
    have e : (w.alloc (.cells ((cutL c s).map tx).toArray 9)).heap[w.heap.size]? = some (.cells ((cutL c s).map tx).toArray 9) := by
      show (w.heap.push _)[w.heap.size]? = _
      simp
    simp only [World.cell?, e, Nat.zero_add]
    simpa using hj
  refine ⟨_, [w.heap.size], rfl, ?_, by simp, ?_, ?_⟩
  · rw [R]
    refine ⟨some ⟨w.heap.size, 0, none⟩, (cutL c s).length, by rw [txs_length], by rw [txs_length]; exact Nat.le_refl _, ?_⟩
    right
    refine ⟨by omega, w.heap.size, 0, (cutL c s).map tx, [], rfl, rfl, ?_, ?_, hcell, sized_txs _, by rw [flatE_txs]; exact RL_txs _ _⟩
    · show w.heap.size < (w.heap.push _).size
      simp
    · intro j hj
      have hj' : j < (cutL c s).length := by omega
      refine ⟨⟨tx (cutL c s)[j], hcell j _ (by simp [hj'])⟩, ?_⟩
      have e : (w.alloc (.cells ((cutL c s).map tx).toArray 9)).heap[w.heap.size]? = some (.cells ((cutL c s).map tx).toArray 9) := by
        show (w.heap.push _)[w.heap.size]? = _
        simp
      show (w.alloc (.cells ((cutL c s).map tx).toArray 9)).frozen? ⟨w.heap.size, 0 + j, none⟩ = false
      simp only [World.frozen?, e]
      simp
  · intro x hx
    simp at hx
    subst hx
    exact ⟨by show w.heap.size < (w.heap.push _).size; simp, Nat.le_refl _⟩
  · exact ⟨rfl, rfl, rfl, by show w.heap.size ≤ (w.heap.push _).size; simp, fun k hk _ => heapOld w _ k hk, fun _ _ _ h => room_alloc h⟩

theorem s_strconv_Atoi (s : List UInt8) (hs : s.length < 2 ^ 30) : SoundAt Tryd.prog 59 [.v (tx s)] (.tup [.v (.int .i64 (atoiV s)), .bot]) [.bot] := by
  refine of_lib (xs := [tx s]) fun w S forb hg => ?_
  have tup : ∀ (w' : World) (n : Int) (u : Value), R (cout w' [] forb) (.tup [.v (.int .i64 n), .bot]) [] (.tuple #[.int .i64 n, u]) := by
    intro w' n u
    rw [R]
    refine ⟨[_, _], rfl, ?_⟩
    rw [RL]; refine ⟨[], [], _, _, rfl, rfl, by rw [R]; exact ⟨rfl, rfl⟩, ?_⟩
    rw [RL]; exact ⟨[], [], _, _, rfl, rfl, by rw [R], by rw [RL]; exact ⟨rfl, rfl⟩⟩
  rcases h : Go.Lib.atoiAll s with v | _ | _
  ·
    have e : atoiV s = v := by simp [atoiV, h]
    rw [e]
    refine (Tryd.strconv_Atoi_ok ⟨s.toArray⟩ (by simp; omega) v h w).mono ?_
    rintro e w' ⟨rfl, hw⟩
    refine ⟨_, [], rfl, tup _ _ _, by simp, by simp, ?_⟩
    rcases hw with rfl | ⟨t, rfl⟩
    · exact Kept.refl _ _ _
    · exact kept_of_below _ (Go.Lib.bytesWorld_below _ _ _)
  ·
    have e : atoiV s = 0 := by simp [atoiV, h]
    rw [e]
    obtain ⟨ev, h1, h2⟩ := hg.cell (g := 2) (p := errP) (by simp [gps])
    refine (Any.strconv_Atoi_syntax Tryd.laysC172 ⟨s.toArray⟩ (by simp; omega) h ev w h1 h2).mono ?_
    rintro e w' ⟨N, rfl, _, _, hb⟩
    exact ⟨_, [], rfl, tup _ _ _, by simp, by simp, kept_of_below _ hb⟩
  ·
    have e : atoiV s = Go.Lib.atoiSat s := by simp [atoiV, h]
    rw [e]
    obtain ⟨ev, h1, h2⟩ := hg.cell (g := 3) (p := errP) (by simp [gps])
    refine (Tryd.strconv_Atoi_range ⟨s.toArray⟩ (by simp; omega) h ev w h1 h2).mono ?_
    rintro e w' ⟨N, rfl, _, _, hb⟩
    exact ⟨_, [], rfl, tup _ _ _, by simp, by simp, kept_of_below _ hb⟩

end Go.Proofs.Dev

namespace Go.Proofs.Dev
open Go.RowKit
set_option linter.unusedSimpArgs false
set_option maxRecDepth 100000

theorem cut_no {c : UInt8} : ∀ {l : List UInt8}, (∀ j : Nat, l[j]? ≠ some c) → cutL c l = [l]
  | [], _ => rfl
  | x :: l, h => by
    have h0 : x ≠ c := by have := h 0; simpa using this
    rw [cutL, if_neg h0, cut_no (l := l) (fun j => by have := h (j + 1); simpa using this)]
theorem cut_at {c : UInt8} : ∀ {l : List UInt8} {i : Nat}, l[i]? = some c → (∀ j : Nat, j < i → l[j]? ≠ some c) → cutL c l = l.take i :: cutL c (l.drop (i + 1))
  | [], i, h, _ => by simp at h
  | x :: l, 0, h, _ => by
    have : x = c := by simpa using h
    rw [cutL, if_pos this]; simp
  | x :: l, i + 1, h, h2 => by
    have h0 : x ≠ c := by have := h2 0 (by omega); simpa using this
    rw [cutL, if_neg h0, cut_at (l := l) (i := i) (by simpa using h) (fun j hj => by have := h2 (j + 1) (by omega); simpa using this)]
    simp

theorem cutL_le (c : UInt8) : ∀ s : List UInt8, (cutL c s).length ≤ s.length + 1
  | [] => by simp [cutL]
  | x :: s => by
    have := cutL_le c s
    rw [cutL]
    split
    · simp; omega
    · obtain ⟨p, ps, h⟩ := cutL_cons c s
      rw [h] at this ⊢
      simp at this ⊢; omega

theorem s_spec_l1Cut (s : List UInt8) (c : UInt8) (hs : s.length < 2 ^ 30) : SoundAt Tryd.prog n_spec_l1Cut [.v (tx s), .v (.int .u8 (c.toNat : Int))] (.os 1 (txs (cutL c s))) [.bot, .bot] := by
  refine fn_ok (md := mdT) (ms := [false, false]) k_spec_l1Cut (by simp) ?_
  simp [c_spec_l1Cut]
  refine loop_by (fun m E H => ∃ (k f : Nat) (done : List (List UInt8)), m = s.length - k ∧ f ≤ k ∧ k ≤ s.length ∧ (∀ j : Nat, f ≤ j → j < k → s[j]? ≠ some c) ∧ done ++ cutL c (s.drop f) = cutL c s ∧ done.length ≤ k ∧ H = [some (.arr 1 (txs done))] ∧
    E = [(0, .v (tx s)), (1, .v (.int .u8 (c.toNat : Int))), (5, .ls 1 0 0 done.length), (6, .v (.int .i64 (f : Int))), (7, .v (.int .i64 (k : Int)))]) s.length ⟨0, 0, [], by simp⟩ ?_
  rintro J hJ m E H ⟨k, f, done, rfl, hf, hk, hno, hc, hd, rfl, rfl⟩
  by_cases h : k < s.length
  · by_cases he : s[k]? = some c
    · have he' : s[k] = c := by rw [List.getElem?_eq_getElem h] at he; simpa using he
      have hcut : cutL c (s.drop f) = (s.drop f).take (k - f) :: cutL c (s.drop (k + 1)) := by
        rw [cut_at (i := k - f) (by rw [List.getElem?_drop, show f + (k - f) = k by omega]; exact he) (fun j hj => by rw [List.getElem?_drop]; exact hno _ (by omega) (by omega))]
        rw [List.drop_drop, show f + (k - f + 1) = k + 1 by omega]
      have nx := hJ (s.length - (k + 1)) [(0, .v (tx s)), (1, .v (.int .u8 (c.toNat : Int))), (5, .ls 1 0 0 (done.length + 1)), (6, .v (.int .i64 ((k : Int) + 1))), (7, .v (.int .i64 ((k : Int) + 1)))] [some (.arr 1 (txs done ++ [.v (tx ((s.drop f).take (k - f)))]))]
        ⟨k + 1, k + 1, done ++ [(s.drop f).take (k - f)], rfl, by omega, by omega, fun j h1 h2 => by omega, by rw [List.append_assoc, ← hc, hcut]; rfl, by simp; omega, by rw [txs_append]; rfl, by simp⟩
      simp [c_spec_l1Cut_L0, h, he']
      exact ⟨⟨by omega, by omega⟩, ⟨by omega, by omega⟩, ⟨by omega, by omega⟩, _, by omega, nx⟩
    · have he' : ¬ s[k] = c := by rw [List.getElem?_eq_getElem h] at he; simpa using he
      have nx := hJ (s.length - (k + 1)) [(0, .v (tx s)), (1, .v (.int .u8 (c.toNat : Int))), (5, .ls 1 0 0 done.length), (6, .v (.int .i64 (f : Int))), (7, .v (.int .i64 ((k : Int) + 1)))] [some (.arr 1 (txs done))]
        ⟨k + 1, f, done, rfl, by omega, by omega, fun j h1 h2 => by
          by_cases hj : j = k
          · subst hj; exact he
          · exact hno j h1 (by omega), hc, by omega, rfl, by simp⟩
      simp [c_spec_l1Cut_L0, h, he']
      exact ⟨⟨by omega, by omega⟩, _, by omega, nx⟩
  · have hk' : k = s.length := by omega
    subst hk'
    have hcut : cutL c (s.drop f) = [s.drop f] := by
      refine cut_no fun j hj => ?_
      rw [List.getElem?_drop] at hj
      have : f + j < s.length := (List.getElem?_eq_some_iff.1 hj).1
      exact hno _ (by omega) this hj
    rw [← hc, hcut, txs_append, txs_one]
    simp [c_spec_l1Cut_L0]
    refine ⟨by omega, ⟨by omega, by omega⟩, ?_⟩
    rw [List.take_of_length_le (by simp), List.take_of_length_le (l := s.drop f) (by simp)]

end Go.Proofs.Dev

namespace Go.Proofs.Dev
open Go.RowKit
set_option linter.unusedSimpArgs false
set_option maxRecDepth 100000

theorem digs_drop {s : List UInt8} {k : Nat} (n : Int) (h : k < s.length) : digsT n (s.drop k) = if 48 ≤ s[k].toNat ∧ s[k].toNat ≤ 57 then digsT (10 * n + ((s[k].toNat : Int) - 48)) (s.drop (k + 1)) else none := by
  rw [List.drop_eq_getElem_cons h, digsT]

set_option maxHeartbeats 1000000 in
theorem s_spec_l1Digits (p : List UInt8) (hp : p.length < 2 ^ 30) : SoundAt Tryd.prog n_spec_l1Digits [.v (tx p)] (.v (.int .i64 (digT p))) [.bot] := by
  refine fn_ok (md := mdT) (ms := [false]) k_spec_l1Digits (by simp) ?_
  simp [c_spec_l1Digits]
  refine call_on (s_spec_l1In (p.length : Int) 1 4) ?_
  by_cases h0 : p.length = 0
  · have e : ¬ (1 ≤ (p.length : Int) ∧ (p.length : Int) ≤ 4) := by omega
    simp [digT, h0]
  by_cases h4 : 4 < p.length
  · have e : ¬ (1 ≤ (p.length : Int) ∧ (p.length : Int) ≤ 4) := by omega
    simp [digT, h4, e]
  have e : (1 ≤ (p.length : Int) ∧ (p.length : Int) ≤ 4) := by omega
  have hl : 0 < p.length := by omega
  have hhead : p.head? = some p[0] := by rw [List.head?_eq_getElem?, List.getElem?_eq_getElem hl]
  have c48 : ((p[0].toNat : Int) = 48) ↔ p[0] = 48 := by
    have := u8_inj p[0] 48
    simpa using this
  have loop : ∀ Qc : AExit → ES → Heap → Prop, (∀ E n, get E 2 = .v (.int .i64 0) ∨ True → get E 3 = .v (.int .i64 n) → digsT 0 p = some n → Qc (.exit 0) E []) → (∀ E, get E 2 = .v (.int .i64 (-1)) → digsT 0 p = none → Qc .ret E []) →
      loopNode [] [0, 3, 4] (awp Tryd.prog mdT c_spec_l1Digits_L0) Qc [(0, .v (tx p)), (3, .v (.int .i64 0)), (4, .v (.int .i64 0))] [] := by
    intro Qc q1 q2
    refine loop_by (fun m E H => ∃ (k : Nat) (n : Int), m = p.length - k ∧ k ≤ p.length ∧ 0 ≤ n ∧ n < 10 ^ k ∧ digsT n (p.drop k) = digsT 0 p ∧ H = [] ∧ E = [(0, .v (tx p)), (3, .v (.int .i64 n)), (4, .v (.int .i64 (k : Int)))]) p.length ⟨0, 0, by simp⟩ ?_
    rintro J hJ m E H ⟨k, n, rfl, hk, hn0, hn, hd, rfl, rfl⟩
    have h10 : (10 : Int) ^ k ≤ 10000 := by
      have : k = 0 ∨ k = 1 ∨ k = 2 ∨ k = 3 ∨ k = 4 := by omega
      rcases this with rfl | rfl | rfl | rfl | rfl <;> decide
    by_cases h : k < p.length
    · rw [digs_drop n h] at hd
      by_cases hc : 48 ≤ p[k].toNat ∧ p[k].toNat ≤ 57
      · rw [if_pos hc] at hd
        have a1 : ¬ ((p[k].toNat : Int) < 48) := by omega
        have a2 : ¬ ((57 : Int) < (p[k].toNat : Int)) := by omega
        have nx := hJ (p.length - (k + 1)) [(0, .v (tx p)), (3, .v (.int .i64 (10 * n + ((p[k].toNat : Int) - 48)))), (4, .v (.int .i64 ((k : Int) + 1)))] []
          ⟨k + 1, 10 * n + ((p[k].toNat : Int) - 48), rfl, by omega, by omega, by rw [Int.pow_succ]; omega, hd, rfl, by simp⟩
        simp [c_spec_l1Digits_L0, h, a1, a2]
        have hb : (p[k].toNat : Int) ≤ 57 := by omega
        have hb0 : (48 : Int) ≤ (p[k].toNat : Int) := by omega
        exact ⟨⟨by omega, by omega⟩, ⟨by omega, by omega⟩, ⟨by omega, by omega⟩, ⟨by omega, by omega⟩, ⟨by omega, by omega⟩, _, by omega, nx⟩
      · rw [if_neg hc] at hd
        by_cases a1 : (p[k].toNat : Int) < 48
        · simp [c_spec_l1Digits_L0, h, a1]
          exact q2 _ rfl hd.symm
        · have a2 : (57 : Int) < (p[k].toNat : Int) := by omega
          simp [c_spec_l1Digits_L0, h, a1, a2]
          exact q2 _ rfl hd.symm
    · have hk' : k = p.length := by omega
      subst hk'
      rw [List.drop_length] at hd
      simp [c_spec_l1Digits_L0]
      exact q1 _ n (.inr trivial) rfl hd.symm
  by_cases h1 : 1 < p.length
  · by_cases hz : p[0] = 48
    · have hg : (1 : Int) < (p.length : Int) := by omega
      simp [digT, h0, h4, e, h1, hg, hl, hhead, hz]
    · have hg : (1 : Int) < (p.length : Int) := by omega
      have ed : digT p = (digsT 0 p).getD (-1) := by
        unfold digT
        rw [if_neg]
        rintro (h | h | ⟨_, h⟩)
        · exact h0 h
        · exact h4 h
        · rw [hhead] at h; exact hz (by simpa using h)
      rw [ed]
      have c48' : ¬ ((p[0].toNat : Int) = 48) := fun h => hz (c48.1 h)
      simp [e, h1, hg, hz, hl, c48']
      refine loop _ ?_ ?_
      · intro E n _ h3 hd
        simp [h3, hd]
      · intro E h2 hd
        simp [h2, hd]
  · have ed : digT p = (digsT 0 p).getD (-1) := by
      unfold digT
      rw [if_neg]
      rintro (h | h | ⟨h, _⟩)
      · exact h0 h
      · exact h4 h
      · exact h1 h
    rw [ed]
    have hg : ¬ (1 : Int) < (p.length : Int) := by omega
    simp [e, h1, hg]
    refine loop _ ?_ ?_
    · intro E n _ h3 hd
      simp [h3, hd]
    · intro E h2 hd
      simp [h2, hd]

/-- Where a word stands among words. -/
def idxT (x : List UInt8) : List (List UInt8) → Nat → Int
  | [], _ => -1
  | p :: ps, i => if x = p then i else idxT x ps (i + 1)

theorem idxT_drop {ls : List (List UInt8)} {x : List UInt8} {k : Nat} (h : k < ls.length) : idxT x (ls.drop k) k = if x = ls[k] then (k : Int) else idxT x (ls.drop (k + 1)) (k + 1) := by
  rw [List.drop_eq_getElem_cons h, idxT]

theorem att_at {ls : List (List UInt8)} {k : Nat} (h : k < ls.length) : att ls (k : Int) = ls[k] := by simp [att, h]

theorem s_slices_IndexT (ls : List (List UInt8)) (x : List UInt8) (hl : ls.length < 2 ^ 30) : SoundAt Tryd.prog n_slices_Index_string_string [.sl 1 1 (txs ls), .v (tx x)] (.v (.int .i64 (idxT x ls 0))) [.bot, .bot] := by
  refine fn_ok (md := mdT) (ms := [false, false]) k_slices_Index_string_string (by simp) ?_
  simp [c_slices_Index_string_string]
  refine loop_by (fun m E H => ∃ k : Nat, m = ls.length - k ∧ k ≤ ls.length ∧ idxT x (ls.drop k) k = idxT x ls 0 ∧ H = [] ∧ E = [(0, .sl 1 1 (txs ls)), (1, .v (tx x)), (7, .v (.int .i64 ls.length)), (8, .v (.int .i64 (k : Int)))]) ls.length ⟨0, by simp⟩ ?_
  rintro J hJ m E H ⟨k, rfl, hk, hd, rfl, rfl⟩
  by_cases h : k < ls.length
  · rw [idxT_drop h] at hd
    by_cases hx : x = ls[k]
    · rw [if_pos hx] at hd
      rw [← hd]
      simp [c_slices_Index_string_string_L0, h, att_at h, ← hx]
    · rw [if_neg hx] at hd
      have nx := hJ (ls.length - (k + 1)) [(0, .sl 1 1 (txs ls)), (1, .v (tx x)), (7, .v (.int .i64 ls.length)), (8, .v (.int .i64 ((k : Int) + 1)))] [] ⟨k + 1, rfl, by omega, hd, rfl, by simp⟩
      simp [c_slices_Index_string_string_L0, h, att_at h, hx]
      exact ⟨⟨by omega, by omega⟩, _, by omega, nx⟩
  · have hk' : k = ls.length := by omega
    subst hk'
    rw [List.drop_length] at hd
    rw [← hd]
    simp [c_slices_Index_string_string_L0, idxT]

end Go.Proofs.Dev

namespace Go.Proofs.Dev
open Go.RowKit
set_option linter.unusedSimpArgs false
set_option maxRecDepth 100000

/-- The kind of a word, of those looked at so far. -/
def kAt (p : List UInt8) : Nat → Int
  | 0 => -1
  | i + 1 => if p = wordK i then (i : Int) else kAt p i
theorem kAt_all (p : List UInt8) : kAt p 5 = kindT p := by
  by_cases h0 : p = wordK 0
  · subst h0; decide
  by_cases h1 : p = wordK 1
  · subst h1; decide
  by_cases h2 : p = wordK 2
  · subst h2; decide
  by_cases h3 : p = wordK 3
  · subst h3; decide
  by_cases h4 : p = wordK 4
  · subst h4; decide
  have e0 : ¬ p = wordK ((0 : Nat) : Int) := h0
  have e1 : ¬ p = wordK ((1 : Nat) : Int) := h1
  have e2 : ¬ p = wordK ((2 : Nat) : Int) := h2
  have e3 : ¬ p = wordK ((3 : Nat) : Int) := h3
  have e4 : ¬ p = wordK ((4 : Nat) : Int) := h4
  rw [kAt, if_neg e4, kAt, if_neg e3, kAt, if_neg e2, kAt, if_neg e1, kAt, if_neg e0, kAt]
  simp [kindT, h0, h1, h2, h3, h4]
/-- The direction of a letter, of those looked at so far. -/
def wAt (p : List UInt8) : Nat → Int
  | 0 => 0
  | i + 1 => if p = letT (i + 1) then ((i : Int) + 1) else wAt p i
theorem wAt_all (p : List UInt8) : wAt p 4 = wayT p := by
  by_cases h1 : p = letT 1
  · subst h1; decide
  by_cases h2 : p = letT 2
  · subst h2; decide
  by_cases h3 : p = letT 3
  · subst h3; decide
  by_cases h4 : p = letT 4
  · subst h4; decide
  have e1 : ¬ p = letT (((0 : Nat) : Int) + 1) := h1
  have e2 : ¬ p = letT (((1 : Nat) : Int) + 1) := h2
  have e3 : ¬ p = letT (((2 : Nat) : Int) + 1) := h3
  have e4 : ¬ p = letT (((3 : Nat) : Int) + 1) := h4
  rw [wAt, if_neg e4, wAt, if_neg e3, wAt, if_neg e2, wAt, if_neg e1, wAt]
  simp [wayT, h1, h2, h3, h4]

abbrev rdE (s : List UInt8) (n : Nat) (t : Nat) (k : Nat) : ES := [(0, .v (tx s)), (2, .lp 0 0 0 0), (4, .ls 1 1 0 n), (5, .lp 0 2 0 0), (t, .v (.int .i64 (k : Int)))]
abbrev rdH (ps : List (List UInt8)) (a b c : Int) : Heap := [some (.box [.v (.int .i64 0), .v (.int .i64 0), .v (.int .i64 0)]), some (.arr 1 (txs ps)), some (.box [.v (.int .i64 a), .v (.int .i64 b), .v (.int .i64 c)])]

set_option maxHeartbeats 8000000 in
theorem rd_L0 (s : List UInt8) (ps : List (List UInt8)) (h0 : 0 < ps.length) (Qc : AExit → ES → Heap → Prop) (hq : Qc (.exit 0) (rdE s ps.length 6 5 ++ []) (rdH ps (kindT (nth ps 0)) 0 0) ∨ True)
    (hend : ∀ E, get E 0 = .v (tx s) → get E 2 = .lp 0 0 0 0 → get E 4 = .ls 1 1 0 ps.length → get E 5 = .lp 0 2 0 0 → Qc (.exit 0) E (rdH ps (kindT (nth ps 0)) 0 0)) :
    loopNode [(4, 1)] [0, 2, 4, 5, 6] (awp Tryd.prog mdT c_spec_ReadDeed_L0) Qc (rdE s ps.length 6 0) (rdH ps (-1) 0 0) := by
  refine loop_by (fun m E H => ∃ k : Nat, m = 5 - k ∧ k ≤ 5 ∧ E = rdE s ps.length 6 k ∧ H = rdH ps (kAt (nth ps 0) k) 0 0) 5 ⟨0, rfl, by omega, rfl, rfl⟩ ?_
  rintro J hJ m E H ⟨k, rfl, hk, rfl, rfl⟩
  have hg : ps[0] = nth ps 0 := by simp [nth, h0]
  by_cases h5 : k = 5
  · subst h5
    rw [kAt_all]
    simp [c_spec_ReadDeed_L0]
    exact hend _ rfl rfl rfl rfl
  have nx1 : nth ps 0 = wordK k → again J (5 - k) (rdE s ps.length 6 (k + 1)) (rdH ps k 0 0) := fun e => ⟨_, by omega, hJ _ _ _ ⟨k + 1, rfl, by omega, rfl, by rw [kAt, if_pos e]⟩⟩
  have nx2 : nth ps 0 ≠ wordK k → again J (5 - k) (rdE s ps.length 6 (k + 1)) (rdH ps (kAt (nth ps 0) k) 0 0) := fun e => ⟨_, by omega, hJ _ _ _ ⟨k + 1, rfl, by omega, rfl, by rw [kAt, if_neg e]⟩⟩
  generalize kAt (nth ps 0) k = q at *
  generalize nth ps 0 = x at *
  have : k = 0 ∨ k = 1 ∨ k = 2 ∨ k = 3 ∨ k = 4 := by omega
  by_cases e : x = wordK (k : Int)
  · have nx := nx1 e
    clear nx1 nx2 hend hq
    rcases this with rfl | rfl | rfl | rfl | rfl <;>
    · simp [wordK] at e nx
      simp [c_spec_ReadDeed_L0, h0, hg, e]
      (repeat' first | exact nx | apply And.intro)
  · have nx := nx2 e
    clear nx1 nx2 hend hq
    rcases this with rfl | rfl | rfl | rfl | rfl <;>
    · simp [wordK] at e nx
      simp [c_spec_ReadDeed_L0, h0, hg, e]
      (repeat' first | exact nx | apply And.intro)

set_option maxHeartbeats 8000000 in
theorem rd_L1 (s : List UInt8) (ps : List (List UInt8)) (a b : Int) (hp : ps.length < 2 ^ 40) (Qc : AExit → ES → Heap → Prop)
    (hend : ∀ E, get E 0 = .v (tx s) → get E 2 = .lp 0 0 0 0 → get E 5 = .lp 0 2 0 0 → Qc (.exit 2) E (rdH ps a b (if 2 < ps.length then wayT (nth ps 2) else 0))) :
    loopNode [(4, 1)] [0, 2, 4, 5, 7] (awp Tryd.prog mdT c_spec_ReadDeed_L1) Qc (rdE s ps.length 7 1) (rdH ps a b 0) := by
  by_cases h2 : 2 < ps.length
  case neg =>
    have h2' : ¬ (2 : Int) < (ps.length : Int) := by omega
    refine loop_by (fun m E H => m = 0 ∧ E = rdE s ps.length 7 1 ∧ H = rdH ps a b 0) 0 ⟨rfl, rfl, rfl⟩ ?_
    rintro J hJ m E H ⟨rfl, rfl, rfl⟩
    simp only [if_neg h2] at hend
    simp [c_spec_ReadDeed_L1, h2']
    exact hend _ rfl rfl rfl
  have h2' : (2 : Int) < (ps.length : Int) := by omega
  rw [if_pos h2] at hend
  refine loop_by (fun m E H => ∃ k : Nat, m = 4 - k ∧ k ≤ 4 ∧ E = rdE s ps.length 7 (k + 1) ∧ H = rdH ps a b (wAt (nth ps 2) k)) 4 ⟨0, rfl, by omega, rfl, rfl⟩ ?_
  rintro J hJ m E H ⟨k, rfl, hk, rfl, rfl⟩
  have hg : ps[2] = nth ps 2 := by simp [nth, h2]
  by_cases h5 : k = 4
  · subst h5
    rw [wAt_all]
    simp [c_spec_ReadDeed_L1]
    exact hend _ rfl rfl rfl
  have le := s_spec_l10Letter ((k : Int) + 1)
  have nx1 : nth ps 2 = letT ((k : Int) + 1) → again J (4 - k) (rdE s ps.length 7 (k + 2)) (rdH ps a b ((k : Int) + 1)) := fun e => ⟨_, by omega, hJ _ _ _ ⟨k + 1, rfl, by omega, rfl, by rw [wAt, if_pos e]⟩⟩
  have nx2 : nth ps 2 ≠ letT ((k : Int) + 1) → again J (4 - k) (rdE s ps.length 7 (k + 2)) (rdH ps a b (wAt (nth ps 2) k)) := fun e => ⟨_, by omega, hJ _ _ _ ⟨k + 1, rfl, by omega, rfl, by rw [wAt, if_neg e]⟩⟩
  have e2 : ((k + 2 : Nat) : Int) = (k : Int) + 1 + 1 := by omega
  simp only [rdE, e2] at nx1 nx2
  have hk4 : (k : Int) + 1 ≤ 4 := by omega
  generalize wAt (nth ps 2) k = q at *
  generalize nth ps 2 = x at *
  generalize hlt : letT ((k : Int) + 1) = y at *
  by_cases e : x = y
  · have nx := nx1 e
    simp [c_spec_ReadDeed_L1, h2, h2', hg, hk4]
    (repeat' first | omega | apply And.intro) <;>
    · refine call_on le ?_
      simp [e, h2, hg, nx]
      try omega
  · have nx := nx2 e
    simp [c_spec_ReadDeed_L1, h2, h2', hg, hk4]
    (repeat' first | omega | apply And.intro) <;>
    · refine call_on le ?_
      simp [e, h2, hg, nx]
      try omega

/-- How the reference ends. -/
def c_spec_ReadDeed_Z : ACode := .seq (.seq (.reg [.m 50 0, .o 51 (.bin .eql 1) [.t 50, .c (.v (.string ⟨#[]⟩))], .m 52 51,
 .g 53 (.load true 3) [.t 5] 52 false, .g 54 (.call 10 []) [.t 53] 52 false, .mg 55 0 52 false, .g 56 (.bin .neq 1) [.t 54, .t 55] 52 false, .o 57 .pick [.t 52,
 .kb true, .t 56]]) <| .cond (.t 57) ( .seq (.reg [.o 58 (.build dz []) [], .s (.store 3) [.t 2, .t 58], .o 3 .mv [.kb false]]) <| .ret) ( .skip)) <|
 .seq (.reg [.la 59 3 5, .s (.store 3) [.t 2, .t 59], .o 3 .mv [.kb true]]) <| .ret

theorem cutL_each (c : UInt8) : ∀ (s : List UInt8) (p : List UInt8), p ∈ cutL c s → p.length ≤ s.length
  | [], p, h => by simp [cutL] at h; simp [h]
  | x :: s, p, h => by
    rw [cutL] at h
    split at h
    · rcases List.mem_cons.1 h with rfl | h
      · simp
      · have := cutL_each c s p h; simp; omega
    · obtain ⟨q, qs, e⟩ := cutL_cons c s
      rw [e] at h
      rcases List.mem_cons.1 h with rfl | h
      · have := cutL_each c s q (by rw [e]; simp); simp; omega
      · have := cutL_each c s p (by rw [e]; simp [h]); simp; omega
theorem nth_each (c : UInt8) (s : List UInt8) (i : Nat) : (nth (cutL c s) i).length ≤ s.length := by
  unfold nth
  by_cases h : i < (cutL c s).length
  · simp only [List.getD_eq_getElem?_getD, List.getElem?_eq_getElem h, Option.getD_some]
    exact cutL_each c s _ (List.getElem_mem h)
  · simp [List.getElem?_eq_none (show (cutL c s).length ≤ i by omega)]

def deedO (d : Int × Int × Int) (b : Bool) : AV := .tup [deedA d, .v (.bool b)]

set_option maxHeartbeats 8000000 in
theorem s_spec_ReadDeed (s : List UInt8) (hs : s.length < 2 ^ 30) : SoundAt Tryd.prog n_spec_ReadDeed [.v (tx s)] (deedO (readD s) (readB s)) [.bot] := by
  have cu := s_spec_l1Cut s 32 hs
  have hlen := cutL_le 32 s
  obtain ⟨p, qs, hps⟩ := cutL_cons 32 s
  have h0 : 0 < (cutL 32 s).length := by rw [hps]; simp
  have dt := s_spec_DeedText (deedS s)
  have dx : deedS s = (kindT (nth (cutL 32 s) 0), if 1 < (cutL 32 s).length then digT (nth (cutL 32 s) 1) else 0, if 2 < (cutL 32 s).length then wayT (nth (cutL 32 s) 2) else 0) := rfl
  have rb : readB s = (decide (s ≠ []) && decide (dText (deedS s) = s)) := rfl
  have rdd : readD s = if readB s then deedS s else (0, 0, 0) := rfl
  have l1 := s_spec_l1Digits (nth (cutL 32 s) 1) (by have := nth_each 32 s 1; omega)
  refine fn_ok (md := mdT) (ms := [false]) k_spec_ReadDeed (by simp) ?_
  simp [c_spec_ReadDeed]
  refine call_on cu ?_
  generalize cutL 32 s = ps at *
  simp
  refine rd_L0 s ps h0 _ (.inr trivial) ?_
  intro E e0 e2 e4 e5
  have tail : ∀ (E : ES) (b : Int), (b = if 1 < ps.length then digT (nth ps 1) else 0) → get E 0 = .v (tx s) → get E 2 = .lp 0 0 0 0 → get E 5 = .lp 0 2 0 0 →
      awp Tryd.prog mdT c_spec_ReadDeed_Z (Fin [RV.c 2 true 3, RV.t 3] 60 1 [false] (deedO (readD s) (readB s)) [AV.bot]) E (rdH ps (kindT (nth ps 0)) b (if 2 < ps.length then wayT (nth ps 2) else 0)) := by
    intro E b hb e0 e2 e5
    rw [← hb] at dx
    generalize (if 2 < ps.length then wayT (nth ps 2) else 0) = c at *
    generalize kindT (nth ps 0) = a at *
    rw [dx] at dt rb rdd
    simp only [deedA] at dt
    generalize dText (a, b, c) = t at *
    by_cases hs0 : s = []
    · have rb' : readB s = false := by rw [rb]; simp [hs0]
      rw [rdd, rb']
      subst hs0
      simp [c_spec_ReadDeed_Z, e0, e2, e5, deedO, deedA]
    · by_cases ht : t = s
      · have rb' : readB s = true := by rw [rb]; simp [hs0, ht]
        rw [rdd, rb']
        simp [c_spec_ReadDeed_Z, e0, e2, e5, hs0]
        refine call_on dt ?_
        simp [ht, e0, e2, e5, deedO, deedA]
      · have rb' : readB s = false := by rw [rb]; simp [ht]
        rw [rdd, rb']
        simp [c_spec_ReadDeed_Z, e0, e2, e5, hs0]
        refine call_on dt ?_
        simp [ht, e0, e2, e5, deedO, deedA]
  by_cases h1 : 1 < ps.length
  · have h1' : (1 : Int) < (ps.length : Int) := by omega
    have hg1 : ps[1] = nth ps 1 := by simp [nth, h1]
    rw [if_pos h1] at tail
    simp [e0, e2, e4, e5, h1, h1', hg1]
    refine call_on l1 ?_
    simp [e0, e2, e4, e5]
    refine rd_L1 s ps _ _ (by omega) _ ?_
    intro E' f0 f2 f5
    simp only [ablock_exit, if_true, athen_normal]
    exact tail E' _ rfl f0 f2 f5
  · have h1' : ¬ (1 : Int) < (ps.length : Int) := by omega
    rw [if_neg h1] at tail
    simp [e0, e2, e4, e5, h1, h1']
    refine rd_L1 s ps _ _ (by omega) _ ?_
    intro E' f0 f2 f5
    simp only [ablock_exit, if_true, athen_normal]
    exact tail E' _ rfl f0 f2 f5

end Go.Proofs.Dev

namespace Go.Proofs.Dev
open Go.RowKit
set_option linter.unusedSimpArgs false
set_option maxRecDepth 100000

/-- How the program goes on, and ends. -/
def c_impl_ReadDeed_Z : ACode := .seq (.seq (.reg [.la 38 3 5, .o 39 (.call 12 []) [.t 38], .m 40 0, .o 41 (.bin .neq 1) [.t 39, .t 40]]) <|
 .cond (.t 41) ( .seq (.reg [.o 42 (.build dz []) [], .s (.store 3) [.t 2, .t 42], .o 3 .mv [.kb false]]) <| .ret) ( .skip)) <| .seq (.reg [.la 43 3 5,
 .s (.store 3) [.t 2, .t 43], .o 3 .mv [.kb true]]) <| .ret

def c_impl_ReadDeed_Y : ACode := .seq (.seq (.reg [.m 29 4, .n 30 29, .o 31 (.bin .gtr 0) [.t 30, .k 2]]) <| .cond (.t 31) ( .reg [.m 32 4,
 .o 33 (.iadr 1) [.t 32, .k 2], .l 34 33, .o 35 (.call 60 []) [.c (.v (.string ⟨#[35, 101, 110, 119, 115]⟩)), .t 34], .o 36 (.mnx false) [.k 0, .t 35],
 .f 37 2 5, .s (.store 1) [.t 37, .t 36]]) ( .skip)) <| c_impl_ReadDeed_Z

def c_impl_ReadDeed_X : ACode := .seq (.seq (.reg [.f 14 0 5, .l 15 14, .o 16 (.bin .lss 0) [.t 15, .k 0]]) <|
 .cond (.t 16) ( .seq (.reg [.o 17 (.build dz []) [], .s (.store 3) [.t 2, .t 17], .o 3 .mv [.kb false]]) <| .ret) ( .skip)) <| .seq (.seq (.reg [.m 18 4,
 .n 19 18, .o 20 (.bin .gtr 0) [.t 19, .k 1]]) <| .cond (.t 20) ( .reg [.m 22 4, .o 23 (.iadr 1) [.t 22, .k 1], .l 24 23, .o 25 (.call 59 []) [.t 24], .m 21 25,
 .e 26 0 21, .e 27 1 21, .f 28 1 5, .s (.store 1) [.t 28, .t 26]]) ( .skip)) <| c_impl_ReadDeed_Y
theorem rd_X : c_impl_ReadDeed_T0 = c_impl_ReadDeed_X := rfl

abbrev wordsT : List (List UInt8) := [[108, 97, 121], [108, 105, 102, 116], [102, 108, 105, 112], [102, 111, 114, 99, 101], [98, 97, 99, 107]]
abbrev signT : List UInt8 := [35, 101, 110, 119, 115]
theorem idx_kind (x : List UInt8) : idxT x wordsT 0 = kindT x := by
  simp only [idxT, kindT, wordK]
  simp

/-- The deed of a text, by the program. -/
def deedI (s : List UInt8) : Int × Int × Int := let ps := cutL 32 s; (kindT (nth ps 0), if 1 < ps.length then atoiV (nth ps 1) else 0, if 2 < ps.length then max 0 (Go.Lib.index signT (nth ps 2)) else 0)

theorem imp_fin : ∀ k : _root_.Fin 5, ∀ s : _root_.Fin 100, ∀ w : _root_.Fin 5, (if txtOk ((k.val : Int), (s.val : Int), (w.val : Int)) then decide (deedI (dText ((k.val : Int), (s.val : Int), (w.val : Int))) = ((k.val : Int), (s.val : Int), (w.val : Int))) else true) = true := by decide +kernel

theorem imp_text {d : Int × Int × Int} (h : txtOk d = true) : deedI (dText d) = d := by
  obtain ⟨k, s, w⟩ := d
  obtain ⟨k', s', w', rfl, rfl, rfl⟩ := txt_range h
  have := imp_fin k' s' w'
  rw [if_pos h] at this
  simpa using this

theorem imp_read (s : List UInt8) : (decide (dText (deedI s) = s) && decide (s ≠ [])) = readB s ∧ (readB s = true → deedI s = readD s) := read_any fun e he hs => by rw [hs]; exact imp_text he

theorem kind_no {s : List UInt8} (h : kindT (nth (cutL 32 s) 0) < 0) : readB s = false := by
  cases hr : readB s with
  | false => rfl
  | true =>
    obtain ⟨h1, h2⟩ := text_read hr
    have h3 := (imp_read s).2 hr
    have h4 : (deedI s).1 = kindT (nth (cutL 32 s) 0) := rfl
    rw [h3] at h4
    obtain ⟨k', s', w', e1, e2, e3⟩ := txt_range (k := (readD s).1) (s := (readD s).2.1) (w := (readD s).2.2) h2
    omega

theorem kind_nil {s : List UInt8} (h : ¬ kindT (nth (cutL 32 s) 0) < 0) : s ≠ [] := by
  rintro rfl
  exact h (by decide)

set_option maxHeartbeats 8000000 in
theorem s_impl_ReadDeed (s : List UInt8) (hs : s.length < 2 ^ 30) : SoundAt Tryd.prog n_impl_ReadDeed [.v (tx s)] (deedO (readD s) (readB s)) [.bot] := by
  have cu := s_strings_Split s 32 hs
  have hlen := cutL_le 32 s
  obtain ⟨p, qs, hps⟩ := cutL_cons 32 s
  have h0 : 0 < (cutL 32 s).length := by rw [hps]; simp
  have dt := s_impl_DeedText (deedI s)
  have dx : deedI s = (kindT (nth (cutL 32 s) 0), if 1 < (cutL 32 s).length then atoiV (nth (cutL 32 s) 1) else 0, if 2 < (cutL 32 s).length then max 0 (Go.Lib.index signT (nth (cutL 32 s) 2)) else 0) := rfl
  have at1 := s_strconv_Atoi (nth (cutL 32 s) 1) (by have := nth_each 32 s 1; omega)
  have ix2 := s_strings_Index signT (nth (cutL 32 s) 2) (by simp)
  have id0 := s_slices_IndexT wordsT (nth (cutL 32 s) 0) (by simp)
  rw [idx_kind] at id0
  obtain ⟨r1, r2⟩ := imp_read s
  have kn := @kind_no s
  have kn0 := @kind_nil s
  have rdd : readD s = if readB s then deedS s else (0, 0, 0) := rfl
  refine fn_ok (md := mdT) (ms := [false]) k_impl_ReadDeed (by simp) ?_
  have T0 : ∀ E : ES, get E 0 = .v (tx s) → get E 2 = .lp 0 0 0 0 → get E 4 = .ls 1 1 0 (cutL 32 s).length → get E 5 = .lp 0 2 0 0 →
      awp Tryd.prog mdT c_impl_ReadDeed_T0 (Fin [RV.c 2 true 3, RV.t 3] 44 1 [false] (deedO (readD s) (readB s)) [AV.bot]) E (rdH (cutL 32 s) (kindT (nth (cutL 32 s) 0)) 0 0) := by
    intro E e0 e2 e4 e5
    rw [rd_X]
    generalize cutL 32 s = ps at *
    clear id0 cu
    by_cases hk : kindT (nth ps 0) < 0
    · have rb' := kn hk
      rw [rdd, rb']
      simp [c_impl_ReadDeed_X, e0, e2, e4, e5, hk, deedO, deedA]
    have hne := kn0 hk
    rw [decide_eq_true hne, Bool.and_true] at r1
    have fin : ∀ (E : ES) (b c : Int), (b = if 1 < ps.length then atoiV (nth ps 1) else 0) → (c = if 2 < ps.length then max 0 (Go.Lib.index signT (nth ps 2)) else 0) → get E 0 = .v (tx s) → get E 2 = .lp 0 0 0 0 → get E 5 = .lp 0 2 0 0 →
        awp Tryd.prog mdT c_impl_ReadDeed_Z (Fin [RV.c 2 true 3, RV.t 3] 44 1 [false] (deedO (readD s) (readB s)) [AV.bot]) E (rdH ps (kindT (nth ps 0)) b c) := by
      intro E b c hb hc e0 e2 e5
      rw [← hb, ← hc] at dx
      generalize kindT (nth ps 0) = a at *
      rw [dx] at dt r1 r2
      simp only [deedA] at dt
      generalize dText (a, b, c) = t at *
      by_cases ht : t = s
      · have rb' : readB s = true := by rw [← r1]; simp [ht]
        rw [← r2 rb', rb']
        simp [c_impl_ReadDeed_Z, e0, e2, e5]
        refine call_on dt ?_
        simp [ht, e0, e2, e5, deedO, deedA]
      · have rb' : readB s = false := by rw [← r1]; simp [ht]
        rw [rdd, rb']
        simp [c_impl_ReadDeed_Z, e0, e2, e5]
        refine call_on dt ?_
        simp [ht, e0, e2, e5, deedO, deedA]
    have mid : ∀ (E : ES) (b : Int), (b = if 1 < ps.length then atoiV (nth ps 1) else 0) → get E 0 = .v (tx s) → get E 2 = .lp 0 0 0 0 → get E 4 = .ls 1 1 0 ps.length → get E 5 = .lp 0 2 0 0 →
        awp Tryd.prog mdT c_impl_ReadDeed_Y (Fin [RV.c 2 true 3, RV.t 3] 44 1 [false] (deedO (readD s) (readB s)) [AV.bot]) E (rdH ps (kindT (nth ps 0)) b 0) := by
      intro E b hb e0 e2 e4 e5
      by_cases h2 : 2 < ps.length
      · have h2' : (2 : Int) < (ps.length : Int) := by omega
        have hg2 : ps[2] = nth ps 2 := by simp [nth, h2]
        rw [if_pos h2] at fin
        simp [c_impl_ReadDeed_Y, e0, e2, e4, e5, h2, h2', hg2]
        refine call_on ix2 ?_
        simp [e0, e2, e4, e5]
        refine fin _ _ _ hb ?_ ?_ ?_ ?_
        · split <;> omega
        all_goals simp [get, e0, e2, e5]
      · have h2' : ¬ (2 : Int) < (ps.length : Int) := by omega
        rw [if_neg h2] at fin
        simp [c_impl_ReadDeed_Y, e0, e2, e4, e5, h2, h2']
        refine fin _ _ _ hb rfl ?_ ?_ ?_ <;> simp [get, e0, e2, e5]
    by_cases h1 : 1 < ps.length
    · have h1' : (1 : Int) < (ps.length : Int) := by omega
      have hg1 : ps[1] = nth ps 1 := by simp [nth, h1]
      rw [if_pos h1] at mid
      simp [c_impl_ReadDeed_X, e0, e2, e4, e5, hk, h1, h1', hg1]
      refine call_on at1 ?_
      simp [e0, e2, e4, e5]
      refine mid _ _ rfl ?_ ?_ ?_ ?_ <;> simp [get, e0, e2, e4, e5]
    · have h1' : ¬ (1 : Int) < (ps.length : Int) := by omega
      rw [if_neg h1] at mid
      simp [c_impl_ReadDeed_X, e0, e2, e4, e5, hk, h1, h1']
      refine mid _ _ rfl ?_ ?_ ?_ ?_ <;> simp [get, e0, e2, e4, e5]
  simp [c_impl_ReadDeed]
  refine call_on cu ?_
  generalize cutL 32 s = ps at *
  have hg0 : ps[0] = nth ps 0 := by simp [nth, h0]
  simp [h0, hg0]
  (repeat' first | omega | apply And.intro) <;>
  · refine call_on id0 ?_
    simp [txs]
    exact T0 _ rfl rfl rfl rfl

theorem s_laws_eqDeed (a b : Int × Int × Int) : SoundAt Tryd.prog n_laws_eqDeed [deedA a, deedA b] (.v (.bool (decide (a = b)))) [.bot, .bot] := by
  obtain ⟨a1, a2, a3⟩ := a
  obtain ⟨b1, b2, b3⟩ := b
  refine fn_ok (md := mdT) (ms := [false, false]) k_laws_eqDeed (by simp [deedA]) ?_
  by_cases h1 : a1 = b1 <;> by_cases h2 : a2 = b2 <;> by_cases h3 : a3 = b3 <;> simp [c_laws_eqDeed, deedA, h1, h2, h3]

theorem s_FnExactReadDeed (s : List UInt8) (hl : s.length ≤ 9223372036854775807) : SoundAt Tryd.prog n_laws_FnExactReadDeed [.v (tx s)] (.v (.bool true)) [.bot] := by
  refine fn_ok (md := mdT) (ms := [false]) k_laws_FnExactReadDeed (by simp) ?_
  by_cases h : (1048576 : Int) < (s.length : Int)
  · simp [c_laws_FnExactReadDeed, h]
  have hs : s.length < 2 ^ 30 := by omega
  have sp := s_spec_ReadDeed s hs
  have im := s_impl_ReadDeed s hs
  have eq := s_laws_eqDeed (readD s) (readD s)
  generalize readD s = d at *
  generalize readB s = b at *
  obtain ⟨d1, d2, d3⟩ := d
  simp only [deedO, deedA] at sp im eq
  simp [c_laws_FnExactReadDeed, h]
  refine call_on sp ?_
  simp
  refine call_on im ?_
  simp
  refine call_on eq ?_
  simp

end Go.Proofs.Dev

namespace Go.Proofs.Dev

-- 1 parameters, results [.t 2, .t 3], 40 slots, modes [false]
@[simp] abbrev n_spec_ReadJournal : Nat := 29
def c_spec_ReadJournal_L0 : ACode := .seq (.seq (.reg [.m 10 6, .m 11 0, .o 12 (.len true) [.t 11], .o 13 (.bin .lss 0) [.t 10, .t 12]]) <|
 .cond (.t 13) ( .skip) ( .exit 0)) <| .seq (.block 1 ( .seq (.reg [.m 16 0, .m 17 6, .o 18 .sidx [.t 16, .t 17], .o 19 (.bin .eql 0) [.t 18,
 .c (.v (.int .u8 (10)))]]) <| .cond (.t 19) ( .seq (.reg [.m 21 0, .m 22 5, .m 23 6, .o 24 (.sslice true true) [.t 21, .t 22, .t 23],
 .o 25 (.call 26 []) [.t 24], .m 20 25, .e 26 0 20, .e 27 1 20, .o 7 (.alloc dz) [], .s (.store 3) [.t 7, .t 26], .m 8 27]) <| .seq (.seq (.reg [.m 28 8,
 .o 29 (.un .not) [.t 28]]) <| .cond (.t 29) ( .seq (.reg [.m 30 4, .m 31 5, .m 2 30, .m 3 31]) <| .ret) ( .skip)) <| .seq (.reg [.m 32 4, .la 33 3 7,
 .o 34 (.bsl 3) [.t 33], .o 35 (.app 3 24 true) [.t 32, .t 34], .m 4 35]) <| .reg [.m 36 6, .o 37 (.bin .add 0) [.t 36, .k 1], .m 5 37]) ( .skip))) <|
 .reg [.m 14 6, .o 15 (.bin .add 0) [.t 14, .k 1], .m 6 15]

def c_spec_ReadJournal : ACode := .seq (.reg [.o 2 .mv [.c (.os 3 [])], .o 3 .mv [.k 0]]) <| .seq (.reg [.o 9 (.bsl 3) [], .m 4 9]) <|
 .seq (.reg [.o 5 .mv [.k 0]]) <| .seq (.seq (.reg [.o 6 .mv [.k 0]]) <| .block 0 ( .loop [(4, 3)] [0, 4, 5, 6] c_spec_ReadJournal_L0)) <| .seq (.reg [.m 38 4,
 .m 39 5, .m 2 38, .m 3 39]) <| .ret

theorem k_spec_ReadJournal : cFn Tryd.prog n_spec_ReadJournal 40 [.t 2, .t 3] c_spec_ReadJournal := ⟨Tryd.f29, _, Tryd.func29, rfl, by kernel_rfl, by kernel_rfl, by kernel_rfl, by kernel_rfl⟩

-- 1 parameters, results [.t 2, .t 3], 42 slots, modes [false]
@[simp] abbrev n_impl_ReadJournal : Nat := 30
def c_impl_ReadJournal_L0 : ACode := .block 1 ( .seq (.reg [.m 12 0, .m 13 5, .o 14 (.sslice true false) [.t 12, .t 13], .o 15 (.call 61 []) [.t 14,
 .c (.v (.string ⟨#[10]⟩))], .m 11 15, .e 16 0 11, .e 17 1 11, .e 18 2 11, .m 6 16, .m 7 17, .m 8 18]) <| .seq (.reg [.m 20 6, .o 21 (.call 27 []) [.t 20],
 .m 19 21, .e 22 0 19, .e 23 1 19, .o 9 (.alloc dz) [], .s (.store 3) [.t 9, .t 22], .m 10 23]) <| .seq (.seq (.reg [.m 24 8, .o 25 (.un .not) [.t 24], .m 26 25,
 .mg 27 10 26 false, .g 28 (.un .not) [.t 27] 26 false, .o 29 .pick [.t 26, .kb true, .t 28]]) <| .cond (.t 29) ( .seq (.reg [.m 30 4,
 .o 31 (.call 62 []) [.t 30], .m 32 5, .m 2 31, .m 3 32]) <| .ret) ( .skip)) <| .seq (.reg [.m 33 4, .la 34 3 9, .o 35 (.bsl 3) [.t 34],
 .o 36 (.app 3 24 true) [.t 33, .t 35], .m 4 36]) <| .reg [.m 37 5, .m 38 6, .o 39 (.len true) [.t 38], .o 40 (.bin .add 0) [.t 39, .k 1],
 .o 41 (.bin .add 0) [.t 37, .t 40], .m 5 41])

def c_impl_ReadJournal : ACode := .seq (.reg [.o 2 .mv [.c (.os 3 [])], .o 3 .mv [.k 0]]) <| .seq (.reg [.o 4 .mv [.c (.os 3 [])]]) <|
 .seq (.reg [.o 5 .mv [.k 0]]) <| .block 0 ( .loop [(4, 3)] [0, 4, 5] c_impl_ReadJournal_L0)

theorem k_impl_ReadJournal : cFn Tryd.prog n_impl_ReadJournal 42 [.t 2, .t 3] c_impl_ReadJournal := ⟨Tryd.f30, _, Tryd.func30, rfl, by kernel_rfl, by kernel_rfl, by kernel_rfl, by kernel_rfl⟩

-- 2 parameters, results [.t 4], 27 slots, modes [false, false]
@[simp] abbrev n_laws_eqDeedS : Nat := 17
abbrev c_laws_eqDeedS_L0_p0 : Plan := .al (.o 25 (.call 28 []) [.t 20, .t 24]) ( .take (.o 26 (.un .not) [.t 25]) <| .done)
def c_laws_eqDeedS_L0 : ACode := .seq (.seq (.reg [.m 11 5, .m 12 0, .n 13 12, .o 14 (.bin .lss 0) [.t 11, .t 13]]) <| .cond (.t 14) ( .skip) ( .exit 0)) <|
 .seq (.block 1 ( .seq (.draw ( .take (.m 17 0) <| .take (.m 18 5) <| .take (.o 19 (.iadr 3) [.t 17, .t 18]) <| .take (.m 21 1) <| .take (.m 22 5) <|
 .take (.o 23 (.iadr 3) [.t 21, .t 22]) <| .alt (.la 20 3 19) ( .al (.la 24 3 23) c_laws_eqDeedS_L0_p0) <| .al (.la 24 3 23) ( .al (.la 20 3 19) c_laws_eqDeedS_L0_p0))) <| .cond (.t 26) ( .seq (.reg [.o 4 .mv [.kb false]]) <| .ret) ( .skip))) <| .reg [.m 15 5,
 .o 16 (.bin .add 0) [.t 15, .k 1], .m 5 16]

def c_laws_eqDeedS : ACode := .seq (.reg [.o 4 .mv [.kb false]]) <| .seq (.seq (.reg [.m 6 0, .n 7 6, .m 8 1, .n 9 8, .o 10 (.bin .neq 0) [.t 7, .t 9]]) <|
 .cond (.t 10) ( .seq (.reg [.o 4 .mv [.kb false]]) <| .ret) ( .skip)) <| .seq (.seq (.reg [.o 5 .mv [.k 0]]) <| .block 0 ( .loop [(0, 3), (1, 3)] [0, 1,
 5] c_laws_eqDeedS_L0)) <| .seq (.reg [.o 4 .mv [.kb true]]) <| .ret

theorem k_laws_eqDeedS : cFn Tryd.prog n_laws_eqDeedS 27 [.t 4] c_laws_eqDeedS := ⟨Tryd.f17, _, Tryd.func17, rfl, by kernel_rfl, by kernel_rfl, by kernel_rfl, by kernel_rfl⟩

-- 2 parameters, results [.t 4], 34 slots, modes [true, false]
@[simp] abbrev n_laws_markDeedS : Nat := 31
def c_laws_markDeedS_L0 : ACode := .seq (.seq (.reg [.m 6 5, .m 7 0, .n 8 7, .o 9 (.bin .lss 0) [.t 6, .t 8]]) <| .cond (.t 9) ( .skip) ( .exit 0)) <|
 .seq (.block 1 ( .seq (.reg [.m 12 0, .m 13 5, .m 14 1, .o 15 (.iadr 3) [.t 12, .t 13], .f 16 0 15, .s (.store 1) [.t 16, .t 14]]) <| .seq (.reg [.m 17 1,
 .o 18 (.bin .add 0) [.t 17, .k 1], .m 1 18]) <| .seq (.reg [.m 19 0, .m 20 5, .m 21 1, .o 22 (.iadr 3) [.t 19, .t 20], .f 23 1 22, .s (.store 1) [.t 23,
 .t 21]]) <| .seq (.reg [.m 24 1, .o 25 (.bin .add 0) [.t 24, .k 1], .m 1 25]) <| .seq (.reg [.m 26 0, .m 27 5, .m 28 1, .o 29 (.iadr 3) [.t 26, .t 27],
 .f 30 2 29, .s (.store 1) [.t 30, .t 28]]) <| .reg [.m 31 1, .o 32 (.bin .add 0) [.t 31, .k 1], .m 1 32])) <| .reg [.m 10 5, .o 11 (.bin .add 0) [.t 10, .k 1],
 .m 5 11]

def c_laws_markDeedS : ACode := .seq (.reg [.o 4 .mv [.k 0]]) <| .seq (.seq (.reg [.o 5 .mv [.k 0]]) <| .block 0 ( .loop [(0, 3)] [0, 1, 5,
 34] c_laws_markDeedS_L0)) <| .seq (.reg [.m 33 1, .m 4 33]) <| .ret

theorem k_laws_markDeedS : cFn Tryd.prog n_laws_markDeedS 34 [.t 4] c_laws_markDeedS := ⟨Tryd.f31, _, Tryd.func31, rfl, by kernel_rfl, by kernel_rfl, by kernel_rfl, by kernel_rfl⟩

-- 2 parameters, results [.t 4], 40 slots, modes [false, false]
@[simp] abbrev n_laws_heldDeedS : Nat := 32
def c_laws_heldDeedS_L0 : ACode := .seq (.seq (.reg [.m 6 5, .m 7 0, .n 8 7, .o 9 (.bin .lss 0) [.t 6, .t 8]]) <| .cond (.t 9) ( .skip) ( .exit 0)) <|
 .seq (.block 1 ( .seq (.seq (.reg [.m 12 0, .m 13 5, .o 14 (.iadr 3) [.t 12, .t 13], .f 15 0 14, .l 16 15, .m 17 1, .o 18 (.bin .neq 0) [.t 16, .t 17]]) <|
 .cond (.t 18) ( .seq (.reg [.o 4 .mv [.k (-1)]]) <| .ret) ( .skip)) <| .seq (.reg [.m 19 1, .o 20 (.bin .add 0) [.t 19, .k 1], .m 1 20]) <|
 .seq (.seq (.reg [.m 21 0, .m 22 5, .o 23 (.iadr 3) [.t 21, .t 22], .f 24 1 23, .l 25 24, .m 26 1, .o 27 (.bin .neq 0) [.t 25, .t 26]]) <|
 .cond (.t 27) ( .seq (.reg [.o 4 .mv [.k (-1)]]) <| .ret) ( .skip)) <| .seq (.reg [.m 28 1, .o 29 (.bin .add 0) [.t 28, .k 1], .m 1 29]) <|
 .seq (.seq (.reg [.m 30 0, .m 31 5, .o 32 (.iadr 3) [.t 30, .t 31], .f 33 2 32, .l 34 33, .m 35 1, .o 36 (.bin .neq 0) [.t 34, .t 35]]) <|
 .cond (.t 36) ( .seq (.reg [.o 4 .mv [.k (-1)]]) <| .ret) ( .skip)) <| .reg [.m 37 1, .o 38 (.bin .add 0) [.t 37, .k 1], .m 1 38])) <| .reg [.m 10 5,
 .o 11 (.bin .add 0) [.t 10, .k 1], .m 5 11]

def c_laws_heldDeedS : ACode := .seq (.reg [.o 4 .mv [.k 0]]) <| .seq (.seq (.reg [.o 5 .mv [.k 0]]) <| .block 0 ( .loop [(0, 3)] [0, 1,
 5] c_laws_heldDeedS_L0)) <| .seq (.reg [.m 39 1, .m 4 39]) <| .ret

theorem k_laws_heldDeedS : cFn Tryd.prog n_laws_heldDeedS 40 [.t 4] c_laws_heldDeedS := ⟨Tryd.f32, _, Tryd.func32, rfl, by kernel_rfl, by kernel_rfl, by kernel_rfl, by kernel_rfl⟩

-- 1 parameters, results [.t 2], 9 slots, modes [true]
@[simp] abbrev n_slices_Clip_impl_Deed_impl_Deed : Nat := 62

def c_slices_Clip_impl_Deed_impl_Deed : ACode := .seq (.reg [.o 2 .mv [.c (.os 3 [])]]) <| .seq (.reg [.m 3 0, .m 4 0, .n 5 4, .m 6 0, .n 7 6,
 .o 8 (.slice 3 false false true true) [.t 3, .t 5, .t 7], .m 2 8]) <| .ret

theorem k_slices_Clip_impl_Deed_impl_Deed : cFn Tryd.prog n_slices_Clip_impl_Deed_impl_Deed 9 [.t 2] c_slices_Clip_impl_Deed_impl_Deed := ⟨Tryd.f62, _, Tryd.func62, rfl, by kernel_rfl, by kernel_rfl, by kernel_rfl, by kernel_rfl⟩

-- 1 parameters, results [.t 2], 66 slots, modes [false]
@[simp] abbrev n_laws_FnExactReadJournal : Nat := 7

def c_laws_FnExactReadJournal : ACode := .seq (.reg [.o 2 .mv [.kb false]]) <| .seq (.seq (.reg [.m 11 0, .o 12 (.len true) [.t 11], .o 13 (.bin .gtr 0) [.t 12,
 .k 1048576]]) <| .cond (.t 13) ( .seq (.reg [.o 2 .mv [.kb true]]) <| .ret) ( .skip)) <| .seq (.reg [.m 15 0, .o 16 (.call 29 []) [.t 15], .m 14 16, .e 17 0 14,
 .e 18 1 14, .m 3 17, .m 4 18]) <| .seq (.reg [.m 20 0, .o 21 (.call 30 []) [.t 20], .m 19 21, .e 22 0 19, .e 23 1 19, .m 5 22, .m 6 23]) <|
 .seq (.seq (.reg [.m 24 5, .m 25 3, .o 26 (.call 17 []) [.t 24, .t 25], .o 27 (.un .not) [.t 26], .m 28 27, .mg 29 6 28 false, .mg 30 4 28 false,
 .g 31 (.bin .neq 0) [.t 29, .t 30] 28 false, .o 32 .pick [.t 28, .kb true, .t 31]]) <| .cond (.t 32) ( .seq (.reg [.o 2 .mv [.kb false]]) <| .ret) ( .skip)) <|
 .seq (.reg [.o 7 .mv [.k 1]]) <| .seq (.reg [.m 33 5, .m 34 7, .o 35 (.call 31 []) [.t 33, .t 34], .m 7 35]) <| .seq (.reg [.o 8 .mv [.k 1]]) <|
 .seq (.reg [.m 36 5, .m 37 8, .o 38 (.call 32 []) [.t 36, .t 37], .m 8 38]) <| .seq (.seq (.reg [.m 39 8, .o 40 (.bin .lss 0) [.t 39, .k 0]]) <|
 .cond (.t 40) ( .seq (.reg [.o 2 .mv [.kb false]]) <| .ret) ( .skip)) <| .seq (.seq (.reg [.m 41 8, .m 42 7, .o 43 (.bin .neq 0) [.t 41, .t 42]]) <|
 .cond (.t 43) ( .seq (.reg [.o 2 .mv [.kb false]]) <| .ret) ( .skip)) <| .seq (.reg [.m 45 0, .o 46 (.call 30 []) [.t 45], .m 44 46, .e 47 0 44, .e 48 1 44,
 .m 9 47, .m 10 48]) <| .seq (.seq (.reg [.m 49 9, .m 50 3, .o 51 (.call 17 []) [.t 49, .t 50], .o 52 (.un .not) [.t 51], .m 53 52, .mg 54 10 53 false,
 .mg 55 4 53 false, .g 56 (.bin .neq 0) [.t 54, .t 55] 53 false, .o 57 .pick [.t 53, .kb true, .t 56]]) <| .cond (.t 57) ( .seq (.reg [.o 2 .mv [.kb false]]) <|
 .ret) ( .skip)) <| .seq (.reg [.o 8 .mv [.k 1]]) <| .seq (.reg [.m 58 5, .m 59 8, .o 60 (.call 32 []) [.t 58, .t 59], .m 8 60]) <| .seq (.seq (.reg [.m 61 8,
 .o 62 (.bin .lss 0) [.t 61, .k 0]]) <| .cond (.t 62) ( .seq (.reg [.o 2 .mv [.kb false]]) <| .ret) ( .skip)) <| .seq (.seq (.reg [.m 63 8, .m 64 7,
 .o 65 (.bin .neq 0) [.t 63, .t 64]]) <| .cond (.t 65) ( .seq (.reg [.o 2 .mv [.kb false]]) <| .ret) ( .skip)) <| .seq (.reg [.o 2 .mv [.kb true]]) <| .ret

theorem k_laws_FnExactReadJournal : cFn Tryd.prog n_laws_FnExactReadJournal 66 [.t 2] c_laws_FnExactReadJournal := ⟨Tryd.f7, _, Tryd.func7, rfl, by kernel_rfl, by kernel_rfl, by kernel_rfl, by kernel_rfl⟩

end Go.Proofs.Dev

namespace Go.Proofs.Dev
set_option linter.unusedSimpArgs false
set_option maxRecDepth 100000

@[simp] def mdJ (f : Nat) : List Bool := if f = n_laws_markDeedS then [true, false] else if f = n_slices_Clip_impl_Deed_impl_Deed then [true] else []

def dsA (xs : List (Int × Int × Int)) : List AV := xs.map deedA
@[simp] theorem dsA_length (xs : List (Int × Int × Int)) : (dsA xs).length = xs.length := by simp [dsA]
@[simp] theorem dsA_nil : dsA [] = [] := rfl
theorem dsA_append (a b : List (Int × Int × Int)) : dsA (a ++ b) = dsA a ++ dsA b := by simp [dsA]
theorem dsA_get {xs : List (Int × Int × Int)} {i : Nat} (h : i < xs.length) : (dsA xs)[i]? = some (deedA xs[i]) := by simp [dsA, h]
@[simp] theorem dsA_getE {xs : List (Int × Int × Int)} {i : Nat} (h : i < (dsA xs).length) : (dsA xs)[i] = deedA (xs[i]'(by simpa using h)) := by simp [dsA]

def deedC (d : Int × Int × Int) : List AV := [.v (.int .i64 d.1), .v (.int .i64 d.2.1), .v (.int .i64 d.2.2)]
theorem aiadr_ds {c : Nat} {k : IntKind} {xs : List (Int × Int × Int)} {i : Nat} (h : i < xs.length) : aiadr 3 (.sl c 3 (dsA xs)) (.v (.int k (i : Int))) = some (.vp c (deedC xs[i]) 0) := by
  rw [aiadr_sl (dsA_get h)]; rfl

theorem set_mid {α : Type} (X bs : List α) (i : Nat) (v : α) (hX : X.length = i) (hi : i < bs.length) : (X ++ bs.drop i).set i v = (X ++ [v]) ++ bs.drop (i + 1) := by
  rw [List.set_append_right _ _ (by omega), hX, Nat.sub_self, List.drop_eq_getElem_cons hi, List.set_cons_zero, List.append_assoc]
  rfl

theorem s_laws_eqDeedS (xs ys : List (Int × Int × Int)) (ha : xs.length < 2 ^ 40) :
    SoundAt Tryd.prog n_laws_eqDeedS [.sl 1 3 (dsA xs), .sl 1 3 (dsA ys)] (.v (.bool (decide (xs = ys)))) [.bot, .bot] := by
  refine fn_ok (md := mdJ) (ms := [false, false]) k_laws_eqDeedS (by simp) ?_
  simp [c_laws_eqDeedS]
  refine ⟨fun h => ?_, fun hl => ?_⟩
  · intro e; subst e; exact h rfl
  refine loop_by (fun m E H => ∃ i : Nat, m = xs.length - i ∧ i ≤ xs.length ∧ xs.take i = ys.take i ∧ H = [] ∧ E = [(0, .sl 1 3 (dsA xs)), (1, .sl 1 3 (dsA ys)), (5, .v (.int .i64 i))]) xs.length ⟨0, by simp⟩ ?_
  rintro J hJ m E H ⟨i, rfl, hi, he, rfl, rfl⟩
  simp [c_laws_eqDeedS_L0]
  refine ⟨fun h => ?_, fun h => ?_⟩
  · have h2 : i < ys.length := by omega
    simp [h, h2, aiadr_ds, deedC]
    have key : xs[i] = ys[i] → xs.take (i + 1) = ys.take (i + 1) := by
      intro e
      rw [List.take_succ_eq_append_getElem h, List.take_succ_eq_append_getElem h2, he, e]
    have key2 : ¬ (xs[i] = ys[i]) → xs ≠ ys := fun e e2 => e (by subst e2; rfl)
    refine ⟨?_, ?_⟩ <;>
    · refine call_on (s_laws_eqDeed xs[i] ys[i]) ?_
      by_cases e : xs[i] = ys[i]
      · simp [e, deedA]
        exact ⟨by omega, _, by omega, hJ _ _ _ ⟨i + 1, rfl, h, key e, rfl, rfl⟩⟩
      · simp [e, deedA]
        exact key2 e
  · have h1 : i = xs.length := by omega
    subst h1
    rw [List.take_length] at he
    rw [he]
    exact List.take_of_length_le (by omega)

def marks3 (n : Nat) (k : Int) : List (Int × Int × Int) := (List.range n).map fun j : Nat => (k + 3 * j, k + 3 * j + 1, k + 3 * j + 2)
@[simp] theorem marks3_length (n : Nat) (k : Int) : (marks3 n k).length = n := by simp [marks3]
theorem dsA_set (xs : List (Int × Int × Int)) (i : Nat) (d : Int × Int × Int) : (dsA xs).set i (deedA d) = dsA (xs.set i d) := by simp [dsA, List.map_set]
theorem dsA_set' (xs : List (Int × Int × Int)) (i : Nat) (a b c : Int) : (dsA xs).set i (.agg [.v (.int .i64 a), .v (.int .i64 b), .v (.int .i64 c)]) = dsA (xs.set i (a, b, c)) := dsA_set xs i (a, b, c)
theorem dsA_get' {xs : List (Int × Int × Int)} {i : Nat} (h : i < xs.length) : (dsA xs)[i]? = some (.agg [.v (.int .i64 xs[i].1), .v (.int .i64 xs[i].2.1), .v (.int .i64 xs[i].2.2)]) := dsA_get h
theorem marks3_step {k : Int} {bs : List (Int × Int × Int)} {i : Nat} (h : i < bs.length) : (marks3 i k ++ bs.drop i).set i (k + 3 * (i : Nat), k + 3 * (i : Nat) + 1, k + 3 * (i : Nat) + 2) = marks3 (i + 1) k ++ bs.drop (i + 1) := by
  rw [set_mid _ _ _ _ (by simp) h]
  simp [marks3, List.range_succ]

theorem s_laws_markDeedS (bs : List (Int × Int × Int)) (k : Int) (h0 : 0 ≤ k) (h1 : k < 2 ^ 40) (hb : bs.length < 2 ^ 40) :
    SoundAt Tryd.prog n_laws_markDeedS [.os 3 (dsA bs), .v (.int .i64 k)] (.v (.int .i64 (k + 3 * bs.length))) [.os 3 (dsA (marks3 bs.length k)), .bot] := by
  refine fn_ok (md := mdJ) (ms := [true, false]) k_laws_markDeedS (by simp) ?_
  simp [c_laws_markDeedS]
  refine loop_by (fun m E H => ∃ i : Nat, m = bs.length - i ∧ i ≤ bs.length ∧ H = [some (.arr 3 (dsA (marks3 i k ++ bs.drop i)))] ∧ E = [(0, .ls 3 0 0 bs.length), (1, .v (.int .i64 (k + 3 * i))), (5, .v (.int .i64 i)), (34, .ls 3 0 0 bs.length)]) bs.length ⟨0, by simp [marks3]⟩ ?_
  rintro J hJ m E H ⟨i, rfl, hi, rfl, rfl⟩
  have hlen : (marks3 i k ++ bs.drop i).length = bs.length := by simp; omega
  by_cases h : i < bs.length
  · have st := marks3_step (k := k) h
    generalize marks3 i k ++ bs.drop i = ys at *
    simp [c_laws_markDeedS_L0, h, hlen, dsA_set', dsA_get', deedA]
    refine ⟨by omega, by omega, by omega, by omega, _, by omega, hJ _ _ _ ⟨i + 1, rfl, h, ?_, ?_⟩⟩
    · rw [show k + 3 * (i : Int) + 1 + 1 = k + 3 * (i : Int) + 2 by omega, st]
    · simp; omega
  · have : i = bs.length := by omega
    subst this
    simp [c_laws_markDeedS_L0]

theorem s_slices_Clip_Deed (xs : List (Int × Int × Int)) : SoundAt Tryd.prog n_slices_Clip_impl_Deed_impl_Deed [.os 3 (dsA xs)] (.os 3 (dsA xs)) [.bot] := by
  refine fn_ok (md := mdJ) (ms := [false]) k_slices_Clip_impl_Deed_impl_Deed (by simp) ?_
  simp [c_slices_Clip_impl_Deed_impl_Deed]
  exact List.take_of_length_le (by simp)

theorem marks3_get {n : Nat} {k : Int} {i : Nat} (h : i < (marks3 n k).length) : (marks3 n k)[i] = (k + 3 * (i : Int), k + 3 * (i : Int) + 1, k + 3 * (i : Int) + 2) := by simp [marks3]

theorem s_laws_heldDeedS (n : Nat) (k : Int) (h0 : 0 ≤ k) (h1 : k < 2 ^ 40) (hn : n < 2 ^ 40) : SoundAt Tryd.prog n_laws_heldDeedS [.sl 1 3 (dsA (marks3 n k)), .v (.int .i64 k)] (.v (.int .i64 (k + 3 * n))) [.bot, .bot] := by
  refine fn_ok (md := mdJ) (ms := [false, false]) k_laws_heldDeedS (by simp) ?_
  simp [c_laws_heldDeedS]
  refine loop_by (fun m E H => ∃ i : Nat, m = n - i ∧ i ≤ n ∧ H = [] ∧ E = [(0, .sl 1 3 (dsA (marks3 n k))), (1, .v (.int .i64 (k + 3 * i))), (5, .v (.int .i64 i))]) n ⟨0, by simp⟩ ?_
  rintro J hJ m E H ⟨i, rfl, hi, rfl, rfl⟩
  by_cases h : i < n
  · have hl : i < (marks3 n k).length := by simpa using h
    have hx := marks3_get hl
    have nx := hJ (n - (i + 1)) [(0, .sl 1 3 (dsA (marks3 n k))), (1, .v (.int .i64 (k + 3 * i + 1 + 1 + 1))), (5, .v (.int .i64 ((i : Int) + 1)))] [] ⟨i + 1, rfl, h, rfl, by simp; omega⟩
    simp [c_laws_heldDeedS_L0, h, aiadr_ds hl, hx, deedC]
    have e2 : k + 3 * (i : Int) + 1 + 1 = k + 3 * (i : Int) + 2 := by omega
    (repeat' first | omega | apply And.intro)
    intro _
    exact ⟨⟨by omega, by omega⟩, ⟨by omega, by omega⟩, _, by omega, nx⟩
  · have : i = n := by omega
    subst this
    simp [c_laws_heldDeedS_L0]

end Go.Proofs.Dev

namespace Go.Proofs.Dev
set_option linter.unusedSimpArgs false
set_option maxRecDepth 100000

@[simp] theorem vwL_ds (c : Nat) : ∀ xs : List (Int × Int × Int), vwL c (dsA xs) = dsA xs
  | [] => rfl
  | x :: xs => by show vw c (deedA x) :: vwL c (dsA xs) = deedA x :: dsA xs; rw [vwL_ds c xs]; rfl
@[simp] theorem take_ds_n (n : Nat) (k : Int) : (dsA (marks3 n k)).take n = dsA (marks3 n k) := List.take_of_length_le (by simp)
@[simp] theorem take_ds_all (xs : List (Int × Int × Int)) : (dsA xs).take xs.length = dsA xs := List.take_of_length_le (by simp)

def jrA (s : List UInt8) : AV := .tup [.os 3 (dsA (jr s).1), .v (.int .i64 ((jr s).2 : Int))]

set_option maxHeartbeats 4000000 in
theorem s_spec_ReadJournal (s : List UInt8) (hs : s.length < 2 ^ 30) : SoundAt Tryd.prog n_spec_ReadJournal [.v (tx s)] (jrA s) [.bot] := by
  refine fn_ok (md := mdJ) (ms := [false]) k_spec_ReadJournal (by simp) ?_
  simp [c_spec_ReadJournal]
  refine loop_by (fun m E H => ∃ (k f : Nat) (done : List (Int × Int × Int)), m = s.length - k ∧ f ≤ k ∧ k ≤ s.length ∧ (∀ j : Nat, f ≤ j → j < k → s[j]? ≠ some 10) ∧ jr s = (done ++ (jr (s.drop f)).1, f + (jr (s.drop f)).2) ∧ done.length ≤ k ∧
    H = [some (.arr 3 (dsA done))] ∧ E = [(0, .v (tx s)), (4, .ls 3 0 0 done.length), (5, .v (.int .i64 (f : Int))), (6, .v (.int .i64 (k : Int)))]) s.length ⟨0, 0, [], by simp⟩ ?_
  rintro J hJ m E H ⟨k, f, done, rfl, hf, hk, hno, hj, hd, rfl, rfl⟩
  by_cases h : k < s.length
  · by_cases he : s[k] = 10
    · have hnl : nl (s.drop f) = some (k - f) := nl_at (by rw [List.getElem?_drop, show f + (k - f) = k by omega, List.getElem?_eq_getElem h, he]) (fun j hj => by rw [List.getElem?_drop]; exact hno _ (by omega) (by omega))
      have rd := s_spec_ReadDeed ((s.drop f).take (k - f)) (by simp; omega)
      have e10 : ((s[k].toNat : Nat) : Int) = 10 := by rw [he]; rfl
      cases hr : readB ((s.drop f).take (k - f)) with
      | false =>
        have hj' := jr_no hnl hr
        rw [hj'] at hj
        rw [hr] at rd
        simp only [deedO, deedA] at rd
        simp only [jrA, hj]
        simp [c_spec_ReadJournal_L0, h, he]
        refine ⟨⟨by omega, by omega⟩, ?_⟩
        refine call_on rd ?_
        simp
      | true =>
        have hj' := jr_yes hnl hr
        rw [List.drop_drop, show f + (k - f + 1) = k + 1 by omega] at hj'
        rw [hj'] at hj
        rw [hr] at rd
        generalize readD ((s.drop f).take (k - f)) = d at *
        have nx := hJ (s.length - (k + 1)) [(0, .v (tx s)), (4, .ls 3 0 0 (done.length + 1)), (5, .v (.int .i64 ((k : Int) + 1))), (6, .v (.int .i64 ((k : Int) + 1)))] [some (.arr 3 (dsA done ++ [deedA d]))]
          ⟨k + 1, k + 1, done ++ [d], rfl, by omega, by omega, fun j h1 h2 => by omega, by rw [hj]; simp; omega, by simp; omega, by rw [dsA_append]; rfl, by simp⟩
        simp only [deedA] at nx
        simp only [deedO, deedA] at rd
        simp [c_spec_ReadJournal_L0, h, he]
        refine ⟨⟨by omega, by omega⟩, ?_⟩
        refine call_on rd ?_
        simp
        exact ⟨⟨by omega, by omega⟩, ⟨by omega, by omega⟩, _, by omega, nx⟩
    · have nx := hJ (s.length - (k + 1)) [(0, .v (tx s)), (4, .ls 3 0 0 done.length), (5, .v (.int .i64 (f : Int))), (6, .v (.int .i64 ((k : Int) + 1)))] [some (.arr 3 (dsA done))]
        ⟨k + 1, f, done, rfl, by omega, by omega, fun j h1 h2 => by
          by_cases hjk : j = k
          · subst hjk; rw [List.getElem?_eq_getElem h]; simpa using he
          · exact hno j h1 (by omega), hj, by omega, rfl, by simp⟩
      have he' : ¬ ((s[k].toNat : Nat) : Int) = 10 := fun e => he (UInt8.toNat_inj.1 (by show s[k].toNat = 10; omega))
      simp [c_spec_ReadJournal_L0, h, he']
      exact ⟨⟨by omega, by omega⟩, _, by omega, nx⟩
  · have hk' : k = s.length := by omega
    subst hk'
    have hnl : nl (s.drop f) = none := nl_none fun j hj => by
      rw [List.getElem?_drop] at hj
      have : f + j < s.length := (List.getElem?_eq_some_iff.1 hj).1
      exact hno _ (by omega) this hj
    rw [jr_none hnl] at hj
    simp only [jrA, hj]
    simp [c_spec_ReadJournal_L0]

set_option maxHeartbeats 4000000 in
theorem s_impl_ReadJournal (s : List UInt8) (hs : s.length < 2 ^ 30) : SoundAt Tryd.prog n_impl_ReadJournal [.v (tx s)] (jrA s) [.bot] := by
  refine fn_ok (md := mdJ) (ms := [false]) k_impl_ReadJournal (by simp) ?_
  simp [c_impl_ReadJournal]
  refine loop_by (fun m E H => ∃ (f : Nat) (done : List (Int × Int × Int)), m = s.length - f ∧ f ≤ s.length ∧ jr s = (done ++ (jr (s.drop f)).1, f + (jr (s.drop f)).2) ∧ done.length ≤ f ∧
    H = [some (.arr 3 (dsA done))] ∧ E = [(0, .v (tx s)), (4, .ls 3 0 0 done.length), (5, .v (.int .i64 (f : Int)))]) s.length ⟨0, [], by simp⟩ ?_
  rintro J hJ m E H ⟨f, done, rfl, hf, hj, hd, rfl, rfl⟩
  have cu := s_strings_Cut (s.drop f) 10 (by simp; omega)
  have cl := s_slices_Clip_Deed done
  have hdt : List.take (s.length - f) (List.drop f s) = List.drop f s := List.take_of_length_le (by simp)
  cases hnl : nl (s.drop f) with
  | none =>
    rw [nl_cut_none hnl] at cu
    rw [jr_none hnl] at hj
    simp only [jrA, hj]
    have rd := s_impl_ReadDeed (s.drop f) (by simp; omega)
    generalize readB (s.drop f) = b at *
    generalize readD (s.drop f) = d at *
    simp only [deedO, deedA] at rd
    simp [c_impl_ReadJournal_L0, hf, hdt]
    refine call_on cu ?_
    simp
    refine call_on rd ?_
    simp
    refine call_on cl ?_
    simp
  | some i =>
    have hi := nl_lt hnl
    simp only [List.length_drop] at hi
    rw [nl_cut_some hnl] at cu
    have rd := s_impl_ReadDeed ((s.drop f).take i) (by simp; omega)
    have hli : ((s.drop f).take i).length = i := by simp; omega
    cases hr : readB ((s.drop f).take i) with
    | false =>
      have hj' := jr_no hnl hr
      rw [hj'] at hj
      rw [hr] at rd
      generalize readD ((s.drop f).take i) = d at *
      simp only [deedO, deedA] at rd
      simp only [jrA, hj]
      simp [c_impl_ReadJournal_L0, hf, hdt]
      refine call_on cu ?_
      simp
      refine call_on rd ?_
      simp
      refine call_on cl ?_
      simp
    | true =>
      have hj' := jr_yes hnl hr
      rw [List.drop_drop, show f + (i + 1) = f + i + 1 by omega] at hj'
      rw [hj'] at hj
      rw [hr] at rd
      generalize readD ((s.drop f).take i) = d at *
      generalize (s.drop f).take i = ln at *
      have nx := hJ (s.length - (f + i + 1)) [(0, .v (tx s)), (4, .ls 3 0 0 (done.length + 1)), (5, .v (.int .i64 ((f : Int) + ((i : Int) + 1))))] [some (.arr 3 (dsA done ++ [deedA d]))]
        ⟨f + i + 1, done ++ [d], rfl, by omega, by rw [hj]; simp; omega, by simp; omega, by rw [dsA_append]; rfl, by simp; omega⟩
      simp only [deedA] at nx
      simp only [deedO, deedA] at rd
      simp [c_impl_ReadJournal_L0, hf, hdt]
      refine call_on cu ?_
      simp
      refine call_on rd ?_
      simp [hli]
      exact ⟨⟨by omega, by omega⟩, ⟨by omega, by omega⟩, ⟨by omega, by omega⟩, _, by omega, nx⟩

set_option maxHeartbeats 4000000 in
theorem s_FnExactReadJournal (s : List UInt8) (hl : s.length ≤ 9223372036854775807) : SoundAt Tryd.prog n_laws_FnExactReadJournal [.v (tx s)] (.v (.bool true)) [.bot] := by
  refine fn_ok (md := mdJ) (ms := [false]) k_laws_FnExactReadJournal (by simp) ?_
  by_cases h : (1048576 : Int) < (s.length : Int)
  · simp [c_laws_FnExactReadJournal, h]
  have hs : s.length < 2 ^ 30 := by omega
  have sp := s_spec_ReadJournal s hs
  have im := s_impl_ReadJournal s hs
  obtain ⟨j1, j2⟩ := jr_le s.length s (Nat.le_refl _)
  have eq := s_laws_eqDeedS (jr s).1 (jr s).1 (by omega)
  have mk := s_laws_markDeedS (jr s).1 1 (by omega) (by omega) (by omega)
  have he := s_laws_heldDeedS (jr s).1.length 1 (by omega) (by omega) (by omega)
  simp only [jrA] at sp im
  generalize (jr s).1 = xs at *
  generalize (jr s).2 = n at *
  simp [c_laws_FnExactReadJournal, h]
  refine call_on sp ?_
  simp
  refine call_on im ?_
  simp
  refine call_on eq ?_
  simp
  refine call_on mk ?_
  simp
  refine call_on he ?_
  have h3 : ¬ (1 : Int) + 3 * (xs.length : Int) < 0 := by omega
  simp [h3]
  refine call_on im ?_
  simp
  refine call_on eq ?_
  simp
  refine call_on he ?_
  simp [h3]

end Go.Proofs.Dev
