/- Contracts of the functions of the program over slots and rows, each proved against the program itself; no condition beyond those that each theorem names. -/
import Derived.Test.YtiolbpmhnlmmdaaDoorAI
import Derived.Test.YtiolbpmhnlmmdaaDoorAH

set_option linter.unusedSimpArgs false
set_option linter.unusedVariables false

namespace Go.Proofs.Dev
open Go.RowKit
set_option linter.unusedSimpArgs false
set_option maxRecDepth 100000

theorem kept_of_below {w w' : World} (S : List Nat) (h : Below w.heap.size w w') : Kept w.heap.size S w w' := by
  refine ⟨h.os, h.tape, h.output, h.size, fun k hk _ => h.block k hk, ?_⟩
  intro b p k hr j hj
  obtain ⟨⟨u, hu⟩, hf⟩ := hr j hj
  have hlt : b < w.heap.size := block_lt_of_cell hu
  have hb := h.block b hlt
  rw [World.cell?_of_block (w := w) (a := ⟨b, p + j, none⟩) hb, World.frozen?_of_block (w := w) (a := ⟨b, p + j, none⟩) hb]
  exact ⟨⟨u, hu⟩, hf⟩

theorem RL_vs {C : Ctx} : ∀ {xs : List Value} {S : List Nat} {us : List Value}, RL C (xs.map AV.v) S us → S = [] ∧ us = xs
  | [], S, us, h => by
    have h' : RL C [] S us := h
    rw [RL] at h'
    exact h'
  | x :: xs, S, us, h => by
    have h' : RL C (.v x :: xs.map AV.v) S us := h
    rw [RL] at h'
    obtain ⟨S1, S2, u, us', rfl, rfl, h1, h2⟩ := h'
    rw [R] at h1
    obtain ⟨rfl, rfl⟩ := RL_vs h2
    rw [h1.1, h1.2]
    exact ⟨rfl, rfl⟩

theorem RL_bts {C : Ctx} : ∀ xs : List Value, RL C (xs.map fun _ => AV.bot) [] xs
  | [] => by show RL C [] [] []; rw [RL]; exact ⟨rfl, rfl⟩
  | x :: xs => by
    show RL C (.bot :: xs.map fun _ => AV.bot) [] (x :: xs)
    rw [RL]; exact ⟨[], [], _, _, rfl, rfl, by rw [R], RL_bts xs⟩

theorem of_lib {P : Program} {f : Nat} {xs : List Value} {r : AV} (h : ∀ (w : World) (S : List Nat) (forb : Nat → Prop), GB w S forb → Calls P f xs.toArray w fun e w' => ∃ v S', e = .returned v ∧ R (cout w' S' forb) r S' v ∧ S'.Nodup ∧ (∀ x ∈ S', x < w'.heap.size ∧ w.heap.size ≤ x) ∧ Kept w.heap.size [] w w') :
    SoundAt P f (xs.map AV.v) r (xs.map fun _ => .bot) := by
  intro w forb us S hr hnd hlt hforb
  obtain ⟨rfl, rfl⟩ := RL_vs hr
  refine (h w [] forb hforb.2).mono ?_
  rintro e w' ⟨v, S', rfl, h1, h2, h3, h4⟩
  refine ⟨v, S', rfl, ?_, h2, fun x hx => ⟨(h3 x hx).1, .inl (h3 x hx).2⟩, h4⟩
  rw [RL]
  exact ⟨S', [], v, _, by simp, rfl, h1, RL_bts _⟩

theorem maxLen_cell {w : World} {S : List Nat} {forb : Nat → Prop} (h : GB w S forb) : ∃ m : Int, w.cell? ⟨1, 0, none⟩ = some (.int .i64 m) := by
  obtain ⟨u, h1, m, rfl⟩ := h.cell (g := 1) (p := intP) (by simp [gps])
  exact ⟨m, h1⟩

theorem s_strings_Index (s t : List UInt8) (hs : s.length < 2 ^ 30) : SoundAt Tryd.prog 60 [.v (tx s), .v (tx t)] (.v (.int .i64 (Go.Lib.index s t))) [.bot, .bot] := by
  refine of_lib (xs := [tx s, tx t]) fun w S forb hg => ?_
  obtain ⟨m, hm⟩ := maxLen_cell hg
  refine (Tryd.strings_Index ⟨s.toArray⟩ ⟨t.toArray⟩ m w (by simp; omega) hm).mono ?_
  rintro e w' ⟨rfl, rfl⟩
  exact ⟨_, [], rfl, by rw [R]; exact ⟨rfl, rfl⟩, by simp, by simp, Kept.refl _ _ _⟩

theorem s_strings_Split (s : List UInt8) (c : UInt8) (hs : s.length < 2 ^ 30) : SoundAt Tryd.prog 57 [.v (tx s), .v (tx [c])] (.os 1 (txs (cutL c s))) [.bot, .bot] := by
  refine of_lib (xs := [tx s, tx [c]]) fun w S forb hg => ?_
  obtain ⟨m, hm⟩ := maxLen_cell hg
  refine (Tryd.strings_Split ⟨s.toArray⟩ ⟨[c].toArray⟩ m w (by simp; omega) hm (by simp)).mono ?_
  rintro e w' ⟨rfl, rfl⟩
  have hb := splitB_cut c s
  have hl := Go.Lib.splitB_all ⟨[c].toArray⟩ (by simp) 0 _ ⟨s.toArray⟩ rfl
  have hlen : Go.Lib.countB ⟨s.toArray⟩ ⟨[c].toArray⟩ + 1 = (cutL c s).length := by
    have := congrArg List.length hb
    simp only [List.length_map] at this
    rw [← this, hl]
  rw [hb, hlen]
  have hcell : ∀ j u, ((cutL c s).map tx)[j]? = some u → (w.alloc (.cells ((cutL c s).map tx).toArray 9)).cell? ⟨w.heap.size, 0 + j, none⟩ = some u := by
    intro j u hj
    have e : (w.alloc (.cells ((cutL c s).map tx).toArray 9)).heap[w.heap.size]? = some (.cells ((cutL c s).map tx).toArray 9) := by
      show (w.heap.push _)[w.heap.size]? = _
      simp
    simp only [World.cell?, e, Nat.zero_add]
    simpa using hj
  refine ⟨_, [w.heap.size], rfl, ?_, by simp, ?_, ?_⟩
  · rw [R]
    refine ⟨some ⟨w.heap.size, 0, none⟩, (cutL c s).length, by rw [txs_length], by rw [txs_length]; exact Nat.le_refl _, ?_⟩
    right
    refine ⟨by omega, w.heap.size, 0, (cutL c s).map tx, [], rfl, rfl, ?_, ?_, hcell, sized_txs _, by rw [flatE_txs]; exact RL_txs _ _⟩
    · show w.heap.size < (w.heap.push _).size
      simp
    · intro j hj
      have hj' : j < (cutL c s).length := by omega
      refine ⟨⟨tx (cutL c s)[j], hcell j _ (by simp [hj'])⟩, ?_⟩
      have e : (w.alloc (.cells ((cutL c s).map tx).toArray 9)).heap[w.heap.size]? = some (.cells ((cutL c s).map tx).toArray 9) := by
        show (w.heap.push _)[w.heap.size]? = _
        simp
      show (w.alloc (.cells ((cutL c s).map tx).toArray 9)).frozen? ⟨w.heap.size, 0 + j, none⟩ = false
      simp only [World.frozen?, e]
      simp
  · intro x hx
    simp at hx
    subst hx
    exact ⟨by show w.heap.size < (w.heap.push _).size; simp, Nat.le_refl _⟩
  · exact ⟨rfl, rfl, rfl, by show w.heap.size ≤ (w.heap.push _).size; simp, fun k hk _ => heapOld w _ k hk, fun _ _ _ h => room_alloc h⟩

theorem s_strconv_Atoi (s : List UInt8) (hs : s.length < 2 ^ 30) : SoundAt Tryd.prog 59 [.v (tx s)] (.tup [.v (.int .i64 (atoiV s)), .bot]) [.bot] := by
  refine of_lib (xs := [tx s]) fun w S forb hg => ?_
  have tup : ∀ (w' : World) (n : Int) (u : Value), R (cout w' [] forb) (.tup [.v (.int .i64 n), .bot]) [] (.tuple #[.int .i64 n, u]) := by
    intro w' n u
    rw [R]
    refine ⟨[_, _], rfl, ?_⟩
    rw [RL]; refine ⟨[], [], _, _, rfl, rfl, by rw [R]; exact ⟨rfl, rfl⟩, ?_⟩
    rw [RL]; exact ⟨[], [], _, _, rfl, rfl, by rw [R], by rw [RL]; exact ⟨rfl, rfl⟩⟩
  cases h : Go.Lib.atoiAll s with
  | ok v =>
    have e : atoiV s = v := by simp [atoiV, h]
    rw [e]
    refine (Tryd.strconv_Atoi_ok ⟨s.toArray⟩ (by simp; omega) v h w).mono ?_
    rintro e w' ⟨rfl, hw⟩
    refine ⟨_, [], rfl, tup _ _ _, by simp, by simp, ?_⟩
    rcases hw with rfl | ⟨t, rfl⟩
    · exact Kept.refl _ _ _
    · exact kept_of_below _ (Go.Lib.bytesWorld_below _ _ _)
  | «syntax» =>
    have e : atoiV s = 0 := by simp [atoiV, h]
    rw [e]
    obtain ⟨ev, h1, h2⟩ := hg.cell (g := 2) (p := errP) (by simp [gps])
    refine (Tryd.strconv_Atoi_syntax ⟨s.toArray⟩ (by simp; omega) h ev w h1 h2).mono ?_
    rintro e w' ⟨N, rfl, _, _, hb⟩
    exact ⟨_, [], rfl, tup _ _ _, by simp, by simp, kept_of_below _ hb⟩
  | range =>
    have e : atoiV s = Go.Lib.atoiSat s := by simp [atoiV, h]
    rw [e]
    obtain ⟨ev, h1, h2⟩ := hg.cell (g := 3) (p := errP) (by simp [gps])
    refine (Tryd.strconv_Atoi_range ⟨s.toArray⟩ (by simp; omega) h ev w h1 h2).mono ?_
    rintro e w' ⟨N, rfl, _, _, hb⟩
    exact ⟨_, [], rfl, tup _ _ _, by simp, by simp, kept_of_below _ hb⟩

end Go.Proofs.Dev

namespace Go.Proofs.Dev
open Go.RowKit
set_option linter.unusedSimpArgs false
set_option maxRecDepth 100000

theorem cut_no {c : UInt8} : ∀ {l : List UInt8}, (∀ j : Nat, l[j]? ≠ some c) → cutL c l = [l]
  | [], _ => rfl
  | x :: l, h => by
    have h0 : x ≠ c := by have := h 0; simpa using this
    rw [cutL, if_neg h0, cut_no (l := l) (fun j => by have := h (j + 1); simpa using this)]
theorem cut_at {c : UInt8} : ∀ {l : List UInt8} {i : Nat}, l[i]? = some c → (∀ j : Nat, j < i → l[j]? ≠ some c) → cutL c l = l.take i :: cutL c (l.drop (i + 1))
  | [], i, h, _ => by simp at h
  | x :: l, 0, h, _ => by
    have : x = c := by simpa using h
    rw [cutL, if_pos this]; simp
  | x :: l, i + 1, h, h2 => by
    have h0 : x ≠ c := by have := h2 0 (by omega); simpa using this
    rw [cutL, if_neg h0, cut_at (l := l) (i := i) (by simpa using h) (fun j hj => by have := h2 (j + 1) (by omega); simpa using this)]
    simp

theorem cutL_le (c : UInt8) : ∀ s : List UInt8, (cutL c s).length ≤ s.length + 1
  | [] => by simp [cutL]
  | x :: s => by
    have := cutL_le c s
    rw [cutL]
    split
    · simp; omega
    · obtain ⟨p, ps, h⟩ := cutL_cons c s
      rw [h] at this ⊢
      simp at this ⊢; omega

theorem s_spec_l1Cut (s : List UInt8) (c : UInt8) (hs : s.length < 2 ^ 30) : SoundAt Tryd.prog n_spec_l1Cut [.v (tx s), .v (.int .u8 (c.toNat : Int))] (.os 1 (txs (cutL c s))) [.bot, .bot] := by
  refine fn_ok (md := mdT) (ms := [false, false]) k_spec_l1Cut (by simp) ?_
  simp [c_spec_l1Cut]
  refine loop_by (fun m E H => ∃ (k f : Nat) (done : List (List UInt8)), m = s.length - k ∧ f ≤ k ∧ k ≤ s.length ∧ (∀ j : Nat, f ≤ j → j < k → s[j]? ≠ some c) ∧ done ++ cutL c (s.drop f) = cutL c s ∧ done.length ≤ k ∧ H = [some (.arr 1 (txs done))] ∧
    E = [(0, .v (tx s)), (1, .v (.int .u8 (c.toNat : Int))), (5, .ls 1 0 0 done.length), (6, .v (.int .i64 (f : Int))), (7, .v (.int .i64 (k : Int)))]) s.length ⟨0, 0, [], by simp⟩ ?_
  rintro J hJ m E H ⟨k, f, done, rfl, hf, hk, hno, hc, hd, rfl, rfl⟩
  by_cases h : k < s.length
  · by_cases he : s[k]? = some c
    · have he' : s[k] = c := by rw [List.getElem?_eq_getElem h] at he; simpa using he
      have hcut : cutL c (s.drop f) = (s.drop f).take (k - f) :: cutL c (s.drop (k + 1)) := by
        rw [cut_at (i := k - f) (by rw [List.getElem?_drop, show f + (k - f) = k by omega]; exact he) (fun j hj => by rw [List.getElem?_drop]; exact hno _ (by omega) (by omega))]
        rw [List.drop_drop, show f + (k - f + 1) = k + 1 by omega]
      have nx := hJ (s.length - (k + 1)) [(0, .v (tx s)), (1, .v (.int .u8 (c.toNat : Int))), (5, .ls 1 0 0 (done.length + 1)), (6, .v (.int .i64 ((k : Int) + 1))), (7, .v (.int .i64 ((k : Int) + 1)))] [some (.arr 1 (txs done ++ [.v (tx ((s.drop f).take (k - f)))]))]
        ⟨k + 1, k + 1, done ++ [(s.drop f).take (k - f)], rfl, by omega, by omega, fun j h1 h2 => by omega, by rw [List.append_assoc, ← hc, hcut]; rfl, by simp; omega, by rw [txs_append]; rfl, by simp⟩
      simp [c_spec_l1Cut_L0, h, he']
      exact ⟨⟨by omega, by omega⟩, ⟨by omega, by omega⟩, ⟨by omega, by omega⟩, _, by omega, nx⟩
    · have he' : ¬ s[k] = c := by rw [List.getElem?_eq_getElem h] at he; simpa using he
      have nx := hJ (s.length - (k + 1)) [(0, .v (tx s)), (1, .v (.int .u8 (c.toNat : Int))), (5, .ls 1 0 0 done.length), (6, .v (.int .i64 (f : Int))), (7, .v (.int .i64 ((k : Int) + 1)))] [some (.arr 1 (txs done))]
        ⟨k + 1, f, done, rfl, by omega, by omega, fun j h1 h2 => by
          by_cases hj : j = k
          · subst hj; exact he
          · exact hno j h1 (by omega), hc, by omega, rfl, by simp⟩
      simp [c_spec_l1Cut_L0, h, he']
      exact ⟨⟨by omega, by omega⟩, _, by omega, nx⟩
  · have hk' : k = s.length := by omega
    subst hk'
    have hcut : cutL c (s.drop f) = [s.drop f] := by
      refine cut_no fun j hj => ?_
      rw [List.getElem?_drop] at hj
      have : f + j < s.length := (List.getElem?_eq_some_iff.1 hj).1
      exact hno _ (by omega) this hj
    rw [← hc, hcut, txs_append, txs_one]
    simp [c_spec_l1Cut_L0]
    refine ⟨by omega, ⟨by omega, by omega⟩, ?_⟩
    rw [List.take_of_length_le (by simp), List.take_of_length_le (l := s.drop f) (by simp)]

end Go.Proofs.Dev

namespace Go.Proofs.Dev
open Go.RowKit
set_option linter.unusedSimpArgs false
set_option maxRecDepth 100000

theorem digs_drop {s : List UInt8} {k : Nat} (n : Int) (h : k < s.length) : digsT n (s.drop k) = if 48 ≤ s[k].toNat ∧ s[k].toNat ≤ 57 then digsT (10 * n + ((s[k].toNat : Int) - 48)) (s.drop (k + 1)) else none := by
  rw [List.drop_eq_getElem_cons h, digsT]

set_option maxHeartbeats 1000000 in
theorem s_spec_l1Digits (p : List UInt8) (hp : p.length < 2 ^ 30) : SoundAt Tryd.prog n_spec_l1Digits [.v (tx p)] (.v (.int .i64 (digT p))) [.bot] := by
  refine fn_ok (md := mdT) (ms := [false]) k_spec_l1Digits (by simp) ?_
  simp [c_spec_l1Digits]
  refine call_on (s_spec_l1In (p.length : Int) 1 4) ?_
  by_cases h0 : p.length = 0
  · have e : ¬ (1 ≤ (p.length : Int) ∧ (p.length : Int) ≤ 4) := by omega
    simp [digT, h0]
  by_cases h4 : 4 < p.length
  · have e : ¬ (1 ≤ (p.length : Int) ∧ (p.length : Int) ≤ 4) := by omega
    simp [digT, h4, e]
  have e : (1 ≤ (p.length : Int) ∧ (p.length : Int) ≤ 4) := by omega
  have hl : 0 < p.length := by omega
  have hhead : p.head? = some p[0] := by rw [List.head?_eq_getElem?, List.getElem?_eq_getElem hl]
  have c48 : ((p[0].toNat : Int) = 48) ↔ p[0] = 48 := by
    have := u8_inj p[0] 48
    simpa using this
  have loop : ∀ Qc : AExit → ES → Heap → Prop, (∀ E n, get E 2 = .v (.int .i64 0) ∨ True → get E 3 = .v (.int .i64 n) → digsT 0 p = some n → Qc (.exit 0) E []) → (∀ E, get E 2 = .v (.int .i64 (-1)) → digsT 0 p = none → Qc .ret E []) →
      loopNode [] [0, 3, 4] (awp Tryd.prog mdT c_spec_l1Digits_L0) Qc [(0, .v (tx p)), (3, .v (.int .i64 0)), (4, .v (.int .i64 0))] [] := by
    intro Qc q1 q2
    refine loop_by (fun m E H => ∃ (k : Nat) (n : Int), m = p.length - k ∧ k ≤ p.length ∧ 0 ≤ n ∧ n < 10 ^ k ∧ digsT n (p.drop k) = digsT 0 p ∧ H = [] ∧ E = [(0, .v (tx p)), (3, .v (.int .i64 n)), (4, .v (.int .i64 (k : Int)))]) p.length ⟨0, 0, by simp⟩ ?_
    rintro J hJ m E H ⟨k, n, rfl, hk, hn0, hn, hd, rfl, rfl⟩
    have h10 : (10 : Int) ^ k ≤ 10000 := by
      have : k = 0 ∨ k = 1 ∨ k = 2 ∨ k = 3 ∨ k = 4 := by omega
      rcases this with rfl | rfl | rfl | rfl | rfl <;> decide
    by_cases h : k < p.length
    · rw [digs_drop n h] at hd
      by_cases hc : 48 ≤ p[k].toNat ∧ p[k].toNat ≤ 57
      · rw [if_pos hc] at hd
        have a1 : ¬ ((p[k].toNat : Int) < 48) := by omega
        have a2 : ¬ ((57 : Int) < (p[k].toNat : Int)) := by omega
        have nx := hJ (p.length - (k + 1)) [(0, .v (tx p)), (3, .v (.int .i64 (10 * n + ((p[k].toNat : Int) - 48)))), (4, .v (.int .i64 ((k : Int) + 1)))] []
          ⟨k + 1, 10 * n + ((p[k].toNat : Int) - 48), rfl, by omega, by omega, by rw [Int.pow_succ]; omega, hd, rfl, by simp⟩
        simp [c_spec_l1Digits_L0, h, a1, a2]
        have hb : (p[k].toNat : Int) ≤ 57 := by omega
        have hb0 : (48 : Int) ≤ (p[k].toNat : Int) := by omega
        exact ⟨⟨by omega, by omega⟩, ⟨by omega, by omega⟩, ⟨by omega, by omega⟩, ⟨by omega, by omega⟩, ⟨by omega, by omega⟩, _, by omega, nx⟩
      · rw [if_neg hc] at hd
        by_cases a1 : (p[k].toNat : Int) < 48
        · simp [c_spec_l1Digits_L0, h, a1]
          exact q2 _ rfl hd.symm
        · have a2 : (57 : Int) < (p[k].toNat : Int) := by omega
          simp [c_spec_l1Digits_L0, h, a1, a2]
          exact q2 _ rfl hd.symm
    · have hk' : k = p.length := by omega
      subst hk'
      rw [List.drop_length] at hd
      simp [c_spec_l1Digits_L0]
      exact q1 _ n (.inr trivial) rfl hd.symm
  by_cases h1 : 1 < p.length
  · by_cases hz : p[0] = 48
    · have hg : (1 : Int) < (p.length : Int) := by omega
      simp [digT, h0, h4, e, h1, hg, hl, hhead, hz]
    · have hg : (1 : Int) < (p.length : Int) := by omega
      have ed : digT p = (digsT 0 p).getD (-1) := by
        unfold digT
        rw [if_neg]
        rintro (h | h | ⟨_, h⟩)
        · exact h0 h
        · exact h4 h
        · rw [hhead] at h; exact hz (by simpa using h)
      rw [ed]
      have c48' : ¬ ((p[0].toNat : Int) = 48) := fun h => hz (c48.1 h)
      simp [e, h1, hg, hz, hl, c48']
      refine loop _ ?_ ?_
      · intro E n _ h3 hd
        simp [h3, hd]
      · intro E h2 hd
        simp [h2, hd]
  · have ed : digT p = (digsT 0 p).getD (-1) := by
      unfold digT
      rw [if_neg]
      rintro (h | h | ⟨h, _⟩)
      · exact h0 h
      · exact h4 h
      · exact h1 h
    rw [ed]
    have hg : ¬ (1 : Int) < (p.length : Int) := by omega
    simp [e, h1, hg]
    refine loop _ ?_ ?_
    · intro E n _ h3 hd
      simp [h3, hd]
    · intro E h2 hd
      simp [h2, hd]

/-- Where a word stands among words. -/
def idxT (x : List UInt8) : List (List UInt8) → Nat → Int
  | [], _ => -1
  | p :: ps, i => if x = p then i else idxT x ps (i + 1)

theorem idxT_drop {ls : List (List UInt8)} {x : List UInt8} {k : Nat} (h : k < ls.length) : idxT x (ls.drop k) k = if x = ls[k] then (k : Int) else idxT x (ls.drop (k + 1)) (k + 1) := by
  rw [List.drop_eq_getElem_cons h, idxT]

theorem att_at {ls : List (List UInt8)} {k : Nat} (h : k < ls.length) : att ls (k : Int) = ls[k] := by simp [att, h]

theorem s_slices_IndexT (ls : List (List UInt8)) (x : List UInt8) (hl : ls.length < 2 ^ 30) : SoundAt Tryd.prog n_slices_Index_string_string [.sl 1 1 (txs ls), .v (tx x)] (.v (.int .i64 (idxT x ls 0))) [.bot, .bot] := by
  refine fn_ok (md := mdT) (ms := [false, false]) k_slices_Index_string_string (by simp) ?_
  simp [c_slices_Index_string_string]
  refine loop_by (fun m E H => ∃ k : Nat, m = ls.length - k ∧ k ≤ ls.length ∧ idxT x (ls.drop k) k = idxT x ls 0 ∧ H = [] ∧ E = [(0, .sl 1 1 (txs ls)), (1, .v (tx x)), (7, .v (.int .i64 ls.length)), (8, .v (.int .i64 (k : Int)))]) ls.length ⟨0, by simp⟩ ?_
  rintro J hJ m E H ⟨k, rfl, hk, hd, rfl, rfl⟩
  by_cases h : k < ls.length
  · rw [idxT_drop h] at hd
    by_cases hx : x = ls[k]
    · rw [if_pos hx] at hd
      rw [← hd]
      simp [c_slices_Index_string_string_L0, h, att_at h, ← hx]
    · rw [if_neg hx] at hd
      have nx := hJ (ls.length - (k + 1)) [(0, .sl 1 1 (txs ls)), (1, .v (tx x)), (7, .v (.int .i64 ls.length)), (8, .v (.int .i64 ((k : Int) + 1)))] [] ⟨k + 1, rfl, by omega, hd, rfl, by simp⟩
      simp [c_slices_Index_string_string_L0, h, att_at h, hx]
      exact ⟨⟨by omega, by omega⟩, _, by omega, nx⟩
  · have hk' : k = ls.length := by omega
    subst hk'
    rw [List.drop_length] at hd
    rw [← hd]
    simp [c_slices_Index_string_string_L0, idxT]

end Go.Proofs.Dev

namespace Go.Proofs.Dev
open Go.RowKit
set_option linter.unusedSimpArgs false
set_option maxRecDepth 100000

/-- The kind of a word, of those looked at so far. -/
def kAt (p : List UInt8) : Nat → Int
  | 0 => -1
  | i + 1 => if p = wordK i then (i : Int) else kAt p i
theorem kAt_all (p : List UInt8) : kAt p 5 = kindT p := by
  by_cases h0 : p = wordK 0
  · subst h0; decide
  by_cases h1 : p = wordK 1
  · subst h1; decide
  by_cases h2 : p = wordK 2
  · subst h2; decide
  by_cases h3 : p = wordK 3
  · subst h3; decide
  by_cases h4 : p = wordK 4
  · subst h4; decide
  have e0 : ¬ p = wordK ((0 : Nat) : Int) := h0
  have e1 : ¬ p = wordK ((1 : Nat) : Int) := h1
  have e2 : ¬ p = wordK ((2 : Nat) : Int) := h2
  have e3 : ¬ p = wordK ((3 : Nat) : Int) := h3
  have e4 : ¬ p = wordK ((4 : Nat) : Int) := h4
  rw [kAt, if_neg e4, kAt, if_neg e3, kAt, if_neg e2, kAt, if_neg e1, kAt, if_neg e0, kAt]
  simp [kindT, h0, h1, h2, h3, h4]
/-- The direction of a letter, of those looked at so far. -/
def wAt (p : List UInt8) : Nat → Int
  | 0 => 0
  | i + 1 => if p = letT (i + 1) then ((i : Int) + 1) else wAt p i
theorem wAt_all (p : List UInt8) : wAt p 4 = wayT p := by
  by_cases h1 : p = letT 1
  · subst h1; decide
  by_cases h2 : p = letT 2
  · subst h2; decide
  by_cases h3 : p = letT 3
  · subst h3; decide
  by_cases h4 : p = letT 4
  · subst h4; decide
  have e1 : ¬ p = letT (((0 : Nat) : Int) + 1) := h1
  have e2 : ¬ p = letT (((1 : Nat) : Int) + 1) := h2
  have e3 : ¬ p = letT (((2 : Nat) : Int) + 1) := h3
  have e4 : ¬ p = letT (((3 : Nat) : Int) + 1) := h4
  rw [wAt, if_neg e4, wAt, if_neg e3, wAt, if_neg e2, wAt, if_neg e1, wAt]
  simp [wayT, h1, h2, h3, h4]

abbrev rdE (s : List UInt8) (n : Nat) (t : Nat) (k : Nat) : ES := [(0, .v (tx s)), (2, .lp 0 0 0 0), (4, .ls 1 1 0 n), (5, .lp 0 2 0 0), (t, .v (.int .i64 (k : Int)))]
abbrev rdH (ps : List (List UInt8)) (a b c : Int) : Heap := [some (.box [.v (.int .i64 0), .v (.int .i64 0), .v (.int .i64 0)]), some (.arr 1 (txs ps)), some (.box [.v (.int .i64 a), .v (.int .i64 b), .v (.int .i64 c)])]

set_option maxHeartbeats 8000000 in
theorem rd_L0 (s : List UInt8) (ps : List (List UInt8)) (h0 : 0 < ps.length) (Qc : AExit → ES → Heap → Prop) (hq : Qc (.exit 0) (rdE s ps.length 6 5 ++ []) (rdH ps (kindT (nth ps 0)) 0 0) ∨ True)
    (hend : ∀ E, get E 0 = .v (tx s) → get E 2 = .lp 0 0 0 0 → get E 4 = .ls 1 1 0 ps.length → get E 5 = .lp 0 2 0 0 → Qc (.exit 0) E (rdH ps (kindT (nth ps 0)) 0 0)) :
    loopNode [(4, 1)] [0, 2, 4, 5, 6] (awp Tryd.prog mdT c_spec_ReadDeed_L0) Qc (rdE s ps.length 6 0) (rdH ps (-1) 0 0) := by
  refine loop_by (fun m E H => ∃ k : Nat, m = 5 - k ∧ k ≤ 5 ∧ E = rdE s ps.length 6 k ∧ H = rdH ps (kAt (nth ps 0) k) 0 0) 5 ⟨0, rfl, by omega, rfl, rfl⟩ ?_
  rintro J hJ m E H ⟨k, rfl, hk, rfl, rfl⟩
  have hg : ps[0] = nth ps 0 := by simp [nth, h0]
  by_cases h5 : k = 5
  · subst h5
    rw [kAt_all]
    simp [c_spec_ReadDeed_L0]
    exact hend _ rfl rfl rfl rfl
  have nx1 : nth ps 0 = wordK k → again J (5 - k) (rdE s ps.length 6 (k + 1)) (rdH ps k 0 0) := fun e => ⟨_, by omega, hJ _ _ _ ⟨k + 1, rfl, by omega, rfl, by rw [kAt, if_pos e]⟩⟩
  have nx2 : nth ps 0 ≠ wordK k → again J (5 - k) (rdE s ps.length 6 (k + 1)) (rdH ps (kAt (nth ps 0) k) 0 0) := fun e => ⟨_, by omega, hJ _ _ _ ⟨k + 1, rfl, by omega, rfl, by rw [kAt, if_neg e]⟩⟩
  generalize kAt (nth ps 0) k = q at *
  generalize nth ps 0 = x at *
  have : k = 0 ∨ k = 1 ∨ k = 2 ∨ k = 3 ∨ k = 4 := by omega
  by_cases e : x = wordK (k : Int)
  · have nx := nx1 e
    clear nx1 nx2 hend hq
    rcases this with rfl | rfl | rfl | rfl | rfl <;>
    · simp [wordK] at e nx
      simp [c_spec_ReadDeed_L0, h0, hg, e]
      (repeat' first | exact nx | apply And.intro)
  · have nx := nx2 e
    clear nx1 nx2 hend hq
    rcases this with rfl | rfl | rfl | rfl | rfl <;>
    · simp [wordK] at e nx
      simp [c_spec_ReadDeed_L0, h0, hg, e]
      (repeat' first | exact nx | apply And.intro)

set_option maxHeartbeats 8000000 in
theorem rd_L1 (s : List UInt8) (ps : List (List UInt8)) (a b : Int) (hp : ps.length < 2 ^ 40) (Qc : AExit → ES → Heap → Prop)
    (hend : ∀ E, get E 0 = .v (tx s) → get E 2 = .lp 0 0 0 0 → get E 5 = .lp 0 2 0 0 → Qc (.exit 2) E (rdH ps a b (if 2 < ps.length then wayT (nth ps 2) else 0))) :
    loopNode [(4, 1)] [0, 2, 4, 5, 7] (awp Tryd.prog mdT c_spec_ReadDeed_L1) Qc (rdE s ps.length 7 1) (rdH ps a b 0) := by
  by_cases h2 : 2 < ps.length
  case neg =>
    have h2' : ¬ (2 : Int) < (ps.length : Int) := by omega
    refine loop_by (fun m E H => m = 0 ∧ E = rdE s ps.length 7 1 ∧ H = rdH ps a b 0) 0 ⟨rfl, rfl, rfl⟩ ?_
    rintro J hJ m E H ⟨rfl, rfl, rfl⟩
    simp only [if_neg h2] at hend
    simp [c_spec_ReadDeed_L1, h2']
    exact hend _ rfl rfl rfl
  have h2' : (2 : Int) < (ps.length : Int) := by omega
  rw [if_pos h2] at hend
  refine loop_by (fun m E H => ∃ k : Nat, m = 4 - k ∧ k ≤ 4 ∧ E = rdE s ps.length 7 (k + 1) ∧ H = rdH ps a b (wAt (nth ps 2) k)) 4 ⟨0, rfl, by omega, rfl, rfl⟩ ?_
  rintro J hJ m E H ⟨k, rfl, hk, rfl, rfl⟩
  have hg : ps[2] = nth ps 2 := by simp [nth, h2]
  by_cases h5 : k = 4
  · subst h5
    rw [wAt_all]
    simp [c_spec_ReadDeed_L1]
    exact hend _ rfl rfl rfl
  have le := s_spec_l10Letter ((k : Int) + 1)
  have nx1 : nth ps 2 = letT ((k : Int) + 1) → again J (4 - k) (rdE s ps.length 7 (k + 2)) (rdH ps a b ((k : Int) + 1)) := fun e => ⟨_, by omega, hJ _ _ _ ⟨k + 1, rfl, by omega, rfl, by rw [wAt, if_pos e]⟩⟩
  have nx2 : nth ps 2 ≠ letT ((k : Int) + 1) → again J (4 - k) (rdE s ps.length 7 (k + 2)) (rdH ps a b (wAt (nth ps 2) k)) := fun e => ⟨_, by omega, hJ _ _ _ ⟨k + 1, rfl, by omega, rfl, by rw [wAt, if_neg e]⟩⟩
  have e2 : ((k + 2 : Nat) : Int) = (k : Int) + 1 + 1 := by omega
  simp only [rdE, e2] at nx1 nx2
  have hk4 : (k : Int) + 1 ≤ 4 := by omega
  generalize wAt (nth ps 2) k = q at *
  generalize nth ps 2 = x at *
  generalize hlt : letT ((k : Int) + 1) = y at *
  by_cases e : x = y
  · have nx := nx1 e
    simp [c_spec_ReadDeed_L1, h2, h2', hg, hk4]
    (repeat' first | omega | apply And.intro) <;>
    · refine call_on le ?_
      simp [e, h2, hg, nx]
      try omega
  · have nx := nx2 e
    simp [c_spec_ReadDeed_L1, h2, h2', hg, hk4]
    (repeat' first | omega | apply And.intro) <;>
    · refine call_on le ?_
      simp [e, h2, hg, nx]
      try omega

/-- How the reference ends. -/
def c_spec_ReadDeed_Z : ACode := .seq (.seq (.reg [.m 50 0, .o 51 (.bin .eql 1) [.t 50, .c (.v (.string ⟨#[]⟩))], .m 52 51,
 .g 53 (.load true 3) [.t 5] 52 false, .g 54 (.call 10 []) [.t 53] 52 false, .mg 55 0 52 false, .g 56 (.bin .neq 1) [.t 54, .t 55] 52 false, .o 57 .pick [.t 52,
 .kb true, .t 56]]) <| .cond (.t 57) ( .seq (.reg [.o 58 (.build dz []) [], .s (.store 3) [.t 2, .t 58], .o 3 .mv [.kb false]]) <| .ret) ( .skip)) <|
 .seq (.reg [.la 59 3 5, .s (.store 3) [.t 2, .t 59], .o 3 .mv [.kb true]]) <| .ret

theorem cutL_each (c : UInt8) : ∀ (s : List UInt8) (p : List UInt8), p ∈ cutL c s → p.length ≤ s.length
  | [], p, h => by simp [cutL] at h; simp [h]
  | x :: s, p, h => by
    rw [cutL] at h
    split at h
    · rcases List.mem_cons.1 h with rfl | h
      · simp
      · have := cutL_each c s p h; simp; omega
    · obtain ⟨q, qs, e⟩ := cutL_cons c s
      rw [e] at h
      rcases List.mem_cons.1 h with rfl | h
      · have := cutL_each c s q (by rw [e]; simp); simp; omega
      · have := cutL_each c s p (by rw [e]; simp [h]); simp; omega
theorem nth_each (c : UInt8) (s : List UInt8) (i : Nat) : (nth (cutL c s) i).length ≤ s.length := by
  unfold nth
  by_cases h : i < (cutL c s).length
  · simp only [List.getD_eq_getElem?_getD, List.getElem?_eq_getElem h, Option.getD_some]
    exact cutL_each c s _ (List.getElem_mem h)
  · simp [List.getElem?_eq_none (show (cutL c s).length ≤ i by omega)]

def deedO (d : Int × Int × Int) (b : Bool) : AV := .tup [deedA d, .v (.bool b)]

set_option maxHeartbeats 8000000 in
theorem s_spec_ReadDeed (s : List UInt8) (hs : s.length < 2 ^ 30) : SoundAt Tryd.prog n_spec_ReadDeed [.v (tx s)] (deedO (readD s) (readB s)) [.bot] := by
  have cu := s_spec_l1Cut s 32 hs
  have hlen := cutL_le 32 s
  obtain ⟨p, qs, hps⟩ := cutL_cons 32 s
  have h0 : 0 < (cutL 32 s).length := by rw [hps]; simp
  have dt := s_spec_DeedText (deedS s)
  have dx : deedS s = (kindT (nth (cutL 32 s) 0), if 1 < (cutL 32 s).length then digT (nth (cutL 32 s) 1) else 0, if 2 < (cutL 32 s).length then wayT (nth (cutL 32 s) 2) else 0) := rfl
  have rb : readB s = (decide (s ≠ []) && decide (dText (deedS s) = s)) := rfl
  have rdd : readD s = if readB s then deedS s else (0, 0, 0) := rfl
  have l1 := s_spec_l1Digits (nth (cutL 32 s) 1) (by have := nth_each 32 s 1; omega)
  refine fn_ok (md := mdT) (ms := [false]) k_spec_ReadDeed (by simp) ?_
  simp [c_spec_ReadDeed]
  refine call_on cu ?_
  generalize cutL 32 s = ps at *
  simp
  refine rd_L0 s ps h0 _ (.inr trivial) ?_
  intro E e0 e2 e4 e5
  have tail : ∀ (E : ES) (b : Int), (b = if 1 < ps.length then digT (nth ps 1) else 0) → get E 0 = .v (tx s) → get E 2 = .lp 0 0 0 0 → get E 5 = .lp 0 2 0 0 →
      awp Tryd.prog mdT c_spec_ReadDeed_Z (Fin [RV.c 2 true 3, RV.t 3] 60 1 [false] (deedO (readD s) (readB s)) [AV.bot]) E (rdH ps (kindT (nth ps 0)) b (if 2 < ps.length then wayT (nth ps 2) else 0)) := by
    intro E b hb e0 e2 e5
    rw [← hb] at dx
    generalize (if 2 < ps.length then wayT (nth ps 2) else 0) = c at *
    generalize kindT (nth ps 0) = a at *
    rw [dx] at dt rb rdd
    simp only [deedA] at dt
    generalize dText (a, b, c) = t at *
    by_cases hs0 : s = []
    · have rb' : readB s = false := by rw [rb]; simp [hs0]
      rw [rdd, rb']
      subst hs0
      simp [c_spec_ReadDeed_Z, e0, e2, e5, deedO, deedA]
    · by_cases ht : t = s
      · have rb' : readB s = true := by rw [rb]; simp [hs0, ht]
        rw [rdd, rb']
        simp [c_spec_ReadDeed_Z, e0, e2, e5, hs0]
        refine call_on dt ?_
        simp [ht, e0, e2, e5, deedO, deedA]
      · have rb' : readB s = false := by rw [rb]; simp [ht]
        rw [rdd, rb']
        simp [c_spec_ReadDeed_Z, e0, e2, e5, hs0]
        refine call_on dt ?_
        simp [ht, e0, e2, e5, deedO, deedA]
  by_cases h1 : 1 < ps.length
  · have h1' : (1 : Int) < (ps.length : Int) := by omega
    have hg1 : ps[1] = nth ps 1 := by simp [nth, h1]
    rw [if_pos h1] at tail
    simp [e0, e2, e4, e5, h1, h1', hg1]
    refine call_on l1 ?_
    simp [e0, e2, e4, e5]
    refine rd_L1 s ps _ _ (by omega) _ ?_
    intro E' f0 f2 f5
    simp only [ablock_exit, if_true, athen_normal]
    exact tail E' _ rfl f0 f2 f5
  · have h1' : ¬ (1 : Int) < (ps.length : Int) := by omega
    rw [if_neg h1] at tail
    simp [e0, e2, e4, e5, h1, h1']
    refine rd_L1 s ps _ _ (by omega) _ ?_
    intro E' f0 f2 f5
    simp only [ablock_exit, if_true, athen_normal]
    exact tail E' _ rfl f0 f2 f5

end Go.Proofs.Dev

namespace Go.Proofs.Dev
open Go.RowKit
set_option linter.unusedSimpArgs false
set_option maxRecDepth 100000

/-- How the program goes on, and ends. -/
def c_impl_ReadDeed_Z : ACode := .seq (.seq (.reg [.la 38 3 5, .o 39 (.call 12 []) [.t 38], .m 40 0, .o 41 (.bin .neq 1) [.t 39, .t 40]]) <|
 .cond (.t 41) ( .seq (.reg [.o 42 (.build dz []) [], .s (.store 3) [.t 2, .t 42], .o 3 .mv [.kb false]]) <| .ret) ( .skip)) <| .seq (.reg [.la 43 3 5,
 .s (.store 3) [.t 2, .t 43], .o 3 .mv [.kb true]]) <| .ret

def c_impl_ReadDeed_Y : ACode := .seq (.seq (.reg [.m 29 4, .n 30 29, .o 31 (.bin .gtr 0) [.t 30, .k 2]]) <| .cond (.t 31) ( .reg [.m 32 4,
 .o 33 (.iadr 1) [.t 32, .k 2], .l 34 33, .o 35 (.call 60 []) [.c (.v (.string ⟨#[35, 101, 110, 119, 115]⟩)), .t 34], .o 36 (.mnx false) [.k 0, .t 35],
 .f 37 2 5, .s (.store 1) [.t 37, .t 36]]) ( .skip)) <| c_impl_ReadDeed_Z

def c_impl_ReadDeed_X : ACode := .seq (.seq (.reg [.f 14 0 5, .l 15 14, .o 16 (.bin .lss 0) [.t 15, .k 0]]) <|
 .cond (.t 16) ( .seq (.reg [.o 17 (.build dz []) [], .s (.store 3) [.t 2, .t 17], .o 3 .mv [.kb false]]) <| .ret) ( .skip)) <| .seq (.seq (.reg [.m 18 4,
 .n 19 18, .o 20 (.bin .gtr 0) [.t 19, .k 1]]) <| .cond (.t 20) ( .reg [.m 22 4, .o 23 (.iadr 1) [.t 22, .k 1], .l 24 23, .o 25 (.call 59 []) [.t 24], .m 21 25,
 .e 26 0 21, .e 27 1 21, .f 28 1 5, .s (.store 1) [.t 28, .t 26]]) ( .skip)) <| c_impl_ReadDeed_Y
theorem rd_X : c_impl_ReadDeed_T0 = c_impl_ReadDeed_X := rfl

abbrev wordsT : List (List UInt8) := [[108, 97, 121], [108, 105, 102, 116], [102, 108, 105, 112], [102, 111, 114, 99, 101], [98, 97, 99, 107]]
abbrev signT : List UInt8 := [35, 101, 110, 119, 115]
theorem idx_kind (x : List UInt8) : idxT x wordsT 0 = kindT x := by
  simp only [idxT, kindT, wordK]
  simp

/-- The deed of a text, by the program. -/
def deedI (s : List UInt8) : Int × Int × Int := let ps := cutL 32 s; (kindT (nth ps 0), if 1 < ps.length then atoiV (nth ps 1) else 0, if 2 < ps.length then max 0 (Go.Lib.index signT (nth ps 2)) else 0)

theorem imp_fin : ∀ k : _root_.Fin 5, ∀ s : _root_.Fin 100, ∀ w : _root_.Fin 5, (if txtOk ((k.val : Int), (s.val : Int), (w.val : Int)) then decide (deedI (dText ((k.val : Int), (s.val : Int), (w.val : Int))) = ((k.val : Int), (s.val : Int), (w.val : Int))) else true) = true := by decide +kernel

theorem imp_text {d : Int × Int × Int} (h : txtOk d = true) : deedI (dText d) = d := by
  obtain ⟨k, s, w⟩ := d
  obtain ⟨k', s', w', rfl, rfl, rfl⟩ := txt_range h
  have := imp_fin k' s' w'
  rw [if_pos h] at this
  simpa using this

theorem imp_read (s : List UInt8) : (decide (dText (deedI s) = s) && decide (s ≠ [])) = readB s ∧ (readB s = true → deedI s = readD s) := read_any fun e he hs => by rw [hs]; exact imp_text he

theorem kind_no {s : List UInt8} (h : kindT (nth (cutL 32 s) 0) < 0) : readB s = false := by
  cases hr : readB s with
  | false => rfl
  | true =>
    obtain ⟨h1, h2⟩ := text_read hr
    have h3 := (imp_read s).2 hr
    have h4 : (deedI s).1 = kindT (nth (cutL 32 s) 0) := rfl
    rw [h3] at h4
    obtain ⟨k', s', w', e1, e2, e3⟩ := txt_range (k := (readD s).1) (s := (readD s).2.1) (w := (readD s).2.2) h2
    omega

theorem kind_nil {s : List UInt8} (h : ¬ kindT (nth (cutL 32 s) 0) < 0) : s ≠ [] := by
  rintro rfl
  exact h (by decide)

set_option maxHeartbeats 8000000 in
theorem s_impl_ReadDeed (s : List UInt8) (hs : s.length < 2 ^ 30) : SoundAt Tryd.prog n_impl_ReadDeed [.v (tx s)] (deedO (readD s) (readB s)) [.bot] := by
  have cu := s_strings_Split s 32 hs
  have hlen := cutL_le 32 s
  obtain ⟨p, qs, hps⟩ := cutL_cons 32 s
  have h0 : 0 < (cutL 32 s).length := by rw [hps]; simp
  have dt := s_impl_DeedText (deedI s)
  have dx : deedI s = (kindT (nth (cutL 32 s) 0), if 1 < (cutL 32 s).length then atoiV (nth (cutL 32 s) 1) else 0, if 2 < (cutL 32 s).length then max 0 (Go.Lib.index signT (nth (cutL 32 s) 2)) else 0) := rfl
  have at1 := s_strconv_Atoi (nth (cutL 32 s) 1) (by have := nth_each 32 s 1; omega)
  have ix2 := s_strings_Index signT (nth (cutL 32 s) 2) (by simp)
  have id0 := s_slices_IndexT wordsT (nth (cutL 32 s) 0) (by simp)
  rw [idx_kind] at id0
  obtain ⟨r1, r2⟩ := imp_read s
  have kn := @kind_no s
  have kn0 := @kind_nil s
  have rdd : readD s = if readB s then deedS s else (0, 0, 0) := rfl
  refine fn_ok (md := mdT) (ms := [false]) k_impl_ReadDeed (by simp) ?_
  have T0 : ∀ E : ES, get E 0 = .v (tx s) → get E 2 = .lp 0 0 0 0 → get E 4 = .ls 1 1 0 (cutL 32 s).length → get E 5 = .lp 0 2 0 0 →
      awp Tryd.prog mdT c_impl_ReadDeed_T0 (Fin [RV.c 2 true 3, RV.t 3] 44 1 [false] (deedO (readD s) (readB s)) [AV.bot]) E (rdH (cutL 32 s) (kindT (nth (cutL 32 s) 0)) 0 0) := by
    intro E e0 e2 e4 e5
    rw [rd_X]
    generalize cutL 32 s = ps at *
    clear id0 cu
    by_cases hk : kindT (nth ps 0) < 0
    · have rb' := kn hk
      rw [rdd, rb']
      simp [c_impl_ReadDeed_X, e0, e2, e4, e5, hk, deedO, deedA]
    have hne := kn0 hk
    rw [decide_eq_true hne, Bool.and_true] at r1
    have fin : ∀ (E : ES) (b c : Int), (b = if 1 < ps.length then atoiV (nth ps 1) else 0) → (c = if 2 < ps.length then max 0 (Go.Lib.index signT (nth ps 2)) else 0) → get E 0 = .v (tx s) → get E 2 = .lp 0 0 0 0 → get E 5 = .lp 0 2 0 0 →
        awp Tryd.prog mdT c_impl_ReadDeed_Z (Fin [RV.c 2 true 3, RV.t 3] 44 1 [false] (deedO (readD s) (readB s)) [AV.bot]) E (rdH ps (kindT (nth ps 0)) b c) := by
      intro E b c hb hc e0 e2 e5
      rw [← hb, ← hc] at dx
      generalize kindT (nth ps 0) = a at *
      rw [dx] at dt r1 r2
      simp only [deedA] at dt
      generalize dText (a, b, c) = t at *
      by_cases ht : t = s
      · have rb' : readB s = true := by rw [← r1]; simp [ht]
        rw [← r2 rb', rb']
        simp [c_impl_ReadDeed_Z, e0, e2, e5]
        refine call_on dt ?_
        simp [ht, e0, e2, e5, deedO, deedA]
      · have rb' : readB s = false := by rw [← r1]; simp [ht]
        rw [rdd, rb']
        simp [c_impl_ReadDeed_Z, e0, e2, e5]
        refine call_on dt ?_
        simp [ht, e0, e2, e5, deedO, deedA]
    have mid : ∀ (E : ES) (b : Int), (b = if 1 < ps.length then atoiV (nth ps 1) else 0) → get E 0 = .v (tx s) → get E 2 = .lp 0 0 0 0 → get E 4 = .ls 1 1 0 ps.length → get E 5 = .lp 0 2 0 0 →
        awp Tryd.prog mdT c_impl_ReadDeed_Y (Fin [RV.c 2 true 3, RV.t 3] 44 1 [false] (deedO (readD s) (readB s)) [AV.bot]) E (rdH ps (kindT (nth ps 0)) b 0) := by
      intro E b hb e0 e2 e4 e5
      by_cases h2 : 2 < ps.length
      · have h2' : (2 : Int) < (ps.length : Int) := by omega
        have hg2 : ps[2] = nth ps 2 := by simp [nth, h2]
        rw [if_pos h2] at fin
        simp [c_impl_ReadDeed_Y, e0, e2, e4, e5, h2, h2', hg2]
        refine call_on ix2 ?_
        simp [e0, e2, e4, e5]
        refine fin _ _ _ hb ?_ ?_ ?_ ?_
        · split <;> omega
        all_goals simp [get, e0, e2, e5]
      · have h2' : ¬ (2 : Int) < (ps.length : Int) := by omega
        rw [if_neg h2] at fin
        simp [c_impl_ReadDeed_Y, e0, e2, e4, e5, h2, h2']
        refine fin _ _ _ hb rfl ?_ ?_ ?_ <;> simp [get, e0, e2, e5]
    by_cases h1 : 1 < ps.length
    · have h1' : (1 : Int) < (ps.length : Int) := by omega
      have hg1 : ps[1] = nth ps 1 := by simp [nth, h1]
      rw [if_pos h1] at mid
      simp [c_impl_ReadDeed_X, e0, e2, e4, e5, hk, h1, h1', hg1]
      refine call_on at1 ?_
      simp [e0, e2, e4, e5]
      refine mid _ _ rfl ?_ ?_ ?_ ?_ <;> simp [get, e0, e2, e4, e5]
    · have h1' : ¬ (1 : Int) < (ps.length : Int) := by omega
      rw [if_neg h1] at mid
      simp [c_impl_ReadDeed_X, e0, e2, e4, e5, hk, h1, h1']
      refine mid _ _ rfl ?_ ?_ ?_ ?_ <;> simp [get, e0, e2, e4, e5]
  simp [c_impl_ReadDeed]
  refine call_on cu ?_
  generalize cutL 32 s = ps at *
  have hg0 : ps[0] = nth ps 0 := by simp [nth, h0]
  simp [h0, hg0]
  (repeat' first | omega | apply And.intro) <;>
  · refine call_on id0 ?_
    simp [txs]
    exact T0 _ rfl rfl rfl rfl

theorem s_laws_eqDeed (a b : Int × Int × Int) : SoundAt Tryd.prog n_laws_eqDeed [deedA a, deedA b] (.v (.bool (decide (a = b)))) [.bot, .bot] := by
  obtain ⟨a1, a2, a3⟩ := a
  obtain ⟨b1, b2, b3⟩ := b
  refine fn_ok (md := mdT) (ms := [false, false]) k_laws_eqDeed (by simp [deedA]) ?_
  by_cases h1 : a1 = b1 <;> by_cases h2 : a2 = b2 <;> by_cases h3 : a3 = b3 <;> simp [c_laws_eqDeed, deedA, h1, h2, h3]

theorem s_FnExactReadDeed (s : List UInt8) (hl : s.length ≤ 9223372036854775807) : SoundAt Tryd.prog n_laws_FnExactReadDeed [.v (tx s)] (.v (.bool true)) [.bot] := by
  refine fn_ok (md := mdT) (ms := [false]) k_laws_FnExactReadDeed (by simp) ?_
  by_cases h : (1048576 : Int) < (s.length : Int)
  · simp [c_laws_FnExactReadDeed, h]
  have hs : s.length < 2 ^ 30 := by omega
  have sp := s_spec_ReadDeed s hs
  have im := s_impl_ReadDeed s hs
  have eq := s_laws_eqDeed (readD s) (readD s)
  generalize readD s = d at *
  generalize readB s = b at *
  obtain ⟨d1, d2, d3⟩ := d
  simp only [deedO, deedA] at sp im eq
  simp [c_laws_FnExactReadDeed, h]
  refine call_on sp ?_
  simp
  refine call_on im ?_
  simp
  refine call_on eq ?_
  simp

end Go.Proofs.Dev
