/- Contracts of the functions of the program over slots and rows, each proved against the program itself; no condition beyond those that each theorem names. -/
import Derived.Test.YtfkmfobbgoflgaaGreatDoorAZ
import Derived.Test.YtfkmfobbgoflgaaGreatDoorBA
import Derived.Test.YtfkmfobbgoflgaaGreatDoorAW
import Derived.Test.YtfkmfobbgoflgaaGreatDoorAN
set_option linter.unusedSimpArgs false
set_option linter.unusedVariables false
set_option maxRecDepth 100000
namespace Go.Proofs.Dev
open Go.RowKit
theorem fM : ∀ (t : List UInt8) (k : Nat), nl (t.take k) = match nl t with | some i => if i < k then some i else none | none => none
 | [], k => by simp [nl]
 | c :: t, 0 => by
   simp only [List.take_zero, nl]
   split <;> rename_i h
   ·simp
   ·rfl
 | c :: t, k + 1 => by
   rw [List.take_succ_cons, nl, nl, fM t k]
   by_cases hc : c = 10
   ·simp [hc]
   ·simp only [if_neg hc]
    cases nl t with
    | none => rfl
    | some i =>
      by_cases hi : i < k
      ·simp [hi]
      ·simp [hi]
theorem ne : ∀ {t : List UInt8} {i : Nat}, nl t = some i → t[i]? = some 10
 | [], i, h => by simp [nl] at h
 | c :: t, i, h => by
   rw [nl] at h
   split at h
   ·rename_i hc
    cases h
    simp [hc]
   ·simp only [Option.map_eq_some_iff] at h
    obtain ⟨j, hj, rfl⟩ := h
    simpa using ne hj
theorem jF : ∀ (n : Nat) (t : List UInt8) (k : Nat), t.length ≤ n → (jr (t.take k)).1 = (jr t).1.take (jr (t.take k)).1.length
 | n, t, k, hn => by
   have e := fM t k
   cases h : nl t with
   | none =>
     rw [h] at e
     rw [Q8 e]
     rfl
   | some i =>
     rw [h] at e
     simp only at e
     have hi := bK h
     by_cases hk : i < k
     ·rw [if_pos hk] at e
      have ht : (t.take k).take i = t.take i := by rw [List.take_take, Nat.min_eq_left (by omega)]
      cases hr : Bo (t.take i) with
      | false => rw [dH e (by rw [ht]; exact hr)]; rfl
      | true =>
        rw [Vx e (by rw [ht]; exact hr), Vx h hr, ht]
        match n, hn with
        | 0, hn => omega
        | n + 1, hn =>
          have ih := jF n (t.drop (i + 1)) (k - (i + 1)) (by simp; omega)
          rw [← List.drop_take] at ih
          simp only [List.length_cons, List.take_succ_cons]
          rw [← ih]
     ·rw [if_neg hk] at e
      rw [Q8 e]
      rfl
theorem nf : ∀ (n : Nat) (t : List UInt8), t.length ≤ n → (∀ d ∈ (jr t).1, Bq d = true) ∧ Bi (jr t).1 = t.take (jr t).2
 | n, t, hn => by
   cases h : nl t with
   | none => rw [Q8 h]; simp [Bi]
   | some i =>
     have hi := bK h
     cases hr : Bo (t.take i) with
     | false => rw [dH h hr]; simp [Bi]
     | true =>
       obtain ⟨r1, r2⟩ := Pc hr
       rw [Vx h hr]
       match n, hn with
       | 0, hn => omega
       | n + 1, hn =>
         obtain ⟨i1, i2⟩ := nf n (t.drop (i + 1)) (by simp; omega)
         refine ⟨?_, ?_⟩
         ·intro d hd
          rcases List.mem_cons.1 hd with rfl | hd
          ·exact r2
          ·exact i1 d hd
         ·show Az (Cc (t.take i)) ++ 10 :: Bi (jr (t.drop (i + 1))).1 = _
          rw [r1, i2]
          have hg := ne h
          have e : t = t.take i ++ 10 :: t.drop (i + 1) := by
           have h1 := List.take_append_drop i t
           rw [List.drop_eq_getElem_cons hi] at h1
           have h2 : t[i] = 10 := by rw [List.getElem?_eq_getElem hi] at hg; simpa using hg
           rw [h2] at h1
           exact h1.symm
          have hl : (t.take i).length = i := by simp; omega
          have e2 : ∀ m, t.take (i + 1 + m) = t.take i ++ 10 :: (t.drop (i + 1)).take m := by
           intro m
           conv => lhs; rw [e]
           rw [show i + 1 + m = (t.take i).length + (m + 1) by omega, List.take_length_add_append, List.take_succ_cons]
          exact (e2 _).symm
theorem bj (xs : List (Int × Int × Int)) (h : xs.length ≤ 12) : (Bi xs).length ≤ 156 := by
 have := aY xs
 omega
def jG (r : AV) (ups : List AV) : Prop := ∃ s : List UInt8, r = .v (tx s) ∧ s.length ≤ 410 ∧ ups = [.bot]
set_option maxHeartbeats 2000000 in
theorem MZ (bs : List Int) (hb : bs.length ≤ 2 ^ 60) (hB : Byt bs) : SoundSet Tryz.prog Dc [.sl 0 1 (u8s bs)] jG := by
 have hB' := St hB 2000
 have hb' : (bs.take 2000).length ≤ 2000 := by rw [List.length_take]; exact Nat.min_le_left _ _
 refine Hb (md := ph) (ms := [false]) MY (by simp) ?_
 simp [GV]
 refine AA (OP bs hb) ?_
 generalize bs.take 2000 = bt at *
 simp
 refine AE (Ri bt 0 hb' hB' (by omega)) [0] (by simp) (by simp) (by simp) ?_
 rintro _ _ ⟨xs, q, x1, x2, hq, rfl, rfl⟩
 have ha : xs.all Bq = true := List.all_eq_true.2 x2
 have e : N4 xs = Bi xs := by rw [N4, ha]; rfl
 have hl := bj xs x1
 have tk : (dsA xs).take xs.length = dsA xs := List.take_of_length_le (by simp)
 have jt := Qw xs (by omega)
 rw [e] at jt
 generalize Bi xs = s at *
 simp
 refine AA jt ?_
 simp
 refine AE (AB bt q 3 hb' hB' (by omega)) [0] (by simp) (by simp) (by simp) ?_
 rintro _ _ ⟨x, x0, x3, rfl, rfl⟩
 have fin : ∀ t : List UInt8, t.length ≤ 410 → jG (.v (tx t)) [.bot] := fun t h => ⟨t, rfl, h, rfl⟩
 by_cases h0 : x = 0
 ·simp [h0]
  refine AE (Un bt (q + 1) s hb' hB' (by omega) (by omega)) [0] (by simp) (by simp) (by simp) ?_
  rintro _ _ ⟨t, q2, rfl, ht, rfl⟩
  simp
  exact ⟨_, _, fin t ht, by simp⟩
 by_cases h1 : x = 1
 ·simp [h0, h1]
  refine ⟨by omega, ?_⟩
  refine AE (AB bt (q + 1) ((s.length : Int) + 1) hb' hB' (by omega)) [0] (by simp) (by simp) (by simp) ?_
  rintro _ _ ⟨y, y0, y1, rfl, rfl⟩
  obtain ⟨y, rfl⟩ := Int.eq_ofNat_of_zero_le y0
  have hy : y ≤ s.length := by omega
  simp [hy]
  exact ⟨_, _, fin (s.take y) (by simp; omega), by simp⟩
 ·simp [h0, h1]
  exact ⟨_, _, fin s (by omega), by simp⟩
theorem fO {W T : Int} {cs : List Bool} {ds ls : List Int} {ps : List (List Int)} {d : Tu} (h : Bq d = true) :
  La W T cs ds ls ps (Az d) = ((doI W T cs ds ls ps d.1 d.2.1 d.2.2).2.1, (doI W T cs ds ls ps d.1 d.2.1 d.2.2).2.2, okT (doI W T cs ds ls ps d.1 d.2.1 d.2.2).1) := by
 obtain ⟨r1, r2⟩ := X2 h
 simp only [La, r1, if_true, r2]
set_option maxHeartbeats 4000000 in
theorem Uo (bs bm : List Int) (hB : Byt bs) (hM : Byt bm) : SoundAt Tryz.prog Hd [.sl 0 1 (u8s bs), .sl 0 1 (u8s bm)] (.v (.bool true)) [.bot, .bot] := by
 refine AJ (md := ph) (ms := [false, false]) Ny (by simp) ?_
 by_cases hs1 : (1048576 : Int) < (bs.length : Int)
 ·simp [Ce, hs1]
 by_cases hs2 : (1048576 : Int) < (bm.length : Int)
 ·simp [Ce, hs1, hs2]
 simp [Ce, hs1, hs2]
 refine AE (MZ bs (by omega) hB) [] (by simp) (by simp) (by simp) ?_
 rintro _ _ ⟨s, rfl, hs, rfl⟩
 have im := J6 s (by omega)
 have sp := Qu s (by omega)
 obtain ⟨jl1, jl2⟩ := kG s.length s (Nat.le_refl _)
 obtain ⟨ji1, ji2⟩ := nf s.length s (Nat.le_refl _)
 have jc := fun k => jF s.length s k (Nat.le_refl _)
 simp only [jrA] at im sp
 generalize hxs : (jr s).1 = xs at *
 generalize hn : (jr s).2 = n at *
 have tk : (dsA xs).take xs.length = dsA xs := List.take_of_length_le (by simp)
 have same := MI xs xs (by omega)
 simp
 refine AA im ?_
 simp
 refine AA sp ?_
 simp
 refine AA same ?_
 simp
 refine AH (fun m E H => ∃ k : Nat, m = s.length + 1 - k ∧ k ≤ s.length + 1 ∧ E = [(1, .sl 0 1 (u8s bm)), (5, .v (tx s)), (6, .ls 3 0 0 xs.length), (7, .v (.int .i64 n)), (10, .v (.int .i64 k))] ∧ H = [some (.arr 3 (dsA xs))]) (s.length + 1) ⟨0, by simp⟩ ?_
 rintro J hJ m E H ⟨k, rfl, hk, rfl, rfl⟩
 by_cases h : k ≤ s.length
 ·have rj := J6 (s.take k) (by simp; omega)
  obtain ⟨k1, k2⟩ := kG (s.take k).length (s.take k) (Nat.le_refl _)
  have c := jc k
  simp only [jrA] at rj
  generalize (jr (s.take k)).1 = ys at *
  generalize (jr (s.take k)).2 = m2 at *
  have hlk : (s.take k).length = k := by simp; omega
  have hyx : ys.length ≤ xs.length := by have := congrArg List.length c; rw [List.length_take] at this; omega
  have sm := MI ys (xs.take ys.length) (by omega)
  rw [← c] at sm
  have tky : (dsA ys).take ys.length = dsA ys := List.take_of_length_le (by simp)
  have tkx : (dsA xs).take ys.length = dsA ys := by
   have e : (dsA xs).take ys.length = dsA (xs.take ys.length) := by simp only [dsA, List.map_take]
   rw [e, ← c]
  have nx := hJ (s.length + 1 - (k + 1)) _ _ ⟨k + 1, rfl, by omega, rfl, rfl⟩
  simp only [Int.natCast_add, Int.cast_ofNat_Int] at nx
  have g1 : ¬ (xs.length : Int) < (ys.length : Int) := by omega
  have g2 : ¬ (k : Int) < (m2 : Int) := by omega
  have g3 : min (ys.length : Int) (xs.length : Int) = ys.length := by omega
  simp [C7, h]
  refine AA rj ?_
  simp [g1, hyx]
  refine AA sm ?_
  simp [g2, tkx, tky, hyx]
  exact ⟨⟨by omega, by omega⟩, _, by omega, nx⟩
 ·have : k = s.length + 1 := by omega
  subst this
  have h' : ¬ (s.length : Int) + 1 ≤ s.length := by omega
  simp [C7, h']
  refine AE (Qr bm (by omega) hM) [] (by simp) (by simp) (by simp) ?_
  rintro _ _ ⟨W, T, cs, ds, ls, ps, zs, h1, h2, h3, h4, h5, h6, h7, rfl, rfl⟩
  have h5a : ∀ x ∈ ps, x.length ≤ 2 ^ 30 := fun x hx => by have := h5 x hx; omega
  have h5b : ∀ x ∈ ps, x.length < 2 ^ 40 := fun x hx => by have := h5 x hx; omega
  have sp99 : ∀ d ∈ xs, d.2.1 ≤ 9223372036854775807 := by
   intro d hd
   have := ji1 d hd
   simp only [Bq, Bool.and_eq_true, decide_eq_true_eq] at this
   omega
  have val := HT W T cs ds ls ps (by omega) (by omega) (by omega) (by omega) h5b
  have run := US W T cs ds ls ps xs (by omega) (by omega) (by omega) (by omega) h5a (by omega) sp99
  have jt := Qv xs (by omega)
  have ej : N4 xs = s.take n := by
   rw [← ji2, N4, if_pos (List.all_eq_true.2 ji1)]
  rw [ej] at jt
  have hnl : (n : Int) ≤ s.length := by omega
  have hnl' : n ≤ s.length := by omega
  have htl : (AC ls).take ls.length = AC ls := AG ls
  have hto : (oss ps).take ps.length = oss ps := List.take_of_length_le (by simp [oss])
  simp
  cases hv : Bw W T cs ds ls ps with
  | false =>
    rw [hv] at val
    have er : YQ W T cs ds ls ps xs = false := by simp [YQ, hv]
    rw [er] at run
    simp only [Bool.false_eq_true, if_false] at run
    refine AH (fun m E H => m = 0 ∧ E = [(5, .v (tx s)), (6, .ls 3 0 0 xs.length), (7, .v (.int .i64 n)), (13, .lp 0 1 0 0), (15, .lp 0 2 0 0), (16, .v (.int .i64 0))] ∧
     H = [some (.arr 3 (dsA xs)), some (.box (bw 3 W T cs ds ls ps)), some (.box (bw 3 W T cs ds ls ps)), some (.arr 1 (AD cs)), some (.arr 1 (AC ds)), some (.arr 1 (AC ls)), some (.arr 1 (oss ps))]) 0 ⟨rfl, by simp, by simp⟩ ?_
    rintro J hJ m E H ⟨rfl, rfl, rfl⟩
    by_cases h0 : 0 < xs.length
    ·simp [Ai, h0]
     refine AA val ?_
     simp
     refine AA run ?_
     simp [hnl, hnl']
     refine AA jt ?_
     simp [tk]
     refine AA val ?_
     simp
     (repeat' apply And.intro) <;>
     ·refine AA Jl ?_
      simp
    ·simp [Ai, h0]
     refine AA run ?_
     simp [hnl, hnl']
     refine AA jt ?_
     simp [tk]
     refine AA val ?_
     simp
     (repeat' apply And.intro) <;>
     ·refine AA Jl ?_
      simp
  | true =>
    rw [hv] at val
    refine AH (fun m E H => ∃ (k : Nat) (l : List Int) (p : List (List Int)) (c : Nat), m = xs.length - k ∧ k ≤ xs.length ∧ Fi (l8 W T cs ds) ls ps (xs.take k) = (l, p, c) ∧ Bw W T cs ds l p = true ∧
     E = [(5, .v (tx s)), (6, .ls 3 0 0 xs.length), (7, .v (.int .i64 n)), (13, .lp 0 1 0 0), (15, .lp 0 2 0 0), (16, .v (.int .i64 k))] ∧
     (l = ls ∧ p = ps ∧ H = [some (.arr 3 (dsA xs)), some (.box (bw 3 W T cs ds ls ps)), some (.box (bw 3 W T cs ds ls ps)), some (.arr 1 (AD cs)), some (.arr 1 (AC ds)), some (.arr 1 (AC ls)), some (.arr 1 (oss ps))] ∨
      H = [some (.arr 3 (dsA xs)), some (.box (bw 3 W T cs ds ls ps)), some (.box (bw 7 W T cs ds l p)), some (.arr 1 (AD cs)), some (.arr 1 (AC ds)), some (.arr 1 (AC ls)), some (.arr 1 (oss ps)), some (.arr 1 (AD cs)), some (.arr 1 (AC ds)), some (.arr 1 (AC l)), some (.arr 1 (oss p))]))
     xs.length ⟨0, ls, ps, 0, by simp, by omega, by simp [Fi], hv, by simp, .inl (by simp)⟩ ?_
    rintro J hJ m E H ⟨k, l, p, c, rfl, hk, hr, hb, rfl, hH⟩
    have htl1 : (AC l).take l.length = AC l := AG l
    have hto1 : (oss p).take p.length = oss p := List.take_of_length_le (by simp [oss])
    obtain ⟨b1, b2, b3, b4, b5, _⟩ := k8 hb
    have b5' : ∀ x ∈ p, x.length < 2 ^ 40 := fun x hx => by have := b5 x hx; omega
    by_cases h0 : k < xs.length
    ·have hd := ji1 xs[k] (List.getElem_mem h0)
     have dt := F4 xs[k]
     have dl := Sv xs[k]
     have bl := Ul W T cs ds l p (Az xs[k]) (by omega) (by omega) (by omega) (by omega) (fun x hx => by have := b5 x hx; omega) (by omega)
     unfold fL at bl
     rw [hb, fO hd] at bl
     simp only [if_true] at bl
     have hb2 := eP xs[k].1 xs[k].2.1 xs[k].2.2 hb
     have hr2 : Fi (l8 W T cs ds) ls ps (xs.take (k + 1)) = ((doI W T cs ds l p xs[k].1 xs[k].2.1 xs[k].2.2).2.1, (doI W T cs ds l p xs[k].1 xs[k].2.1 xs[k].2.2).2.2, c + if (doI W T cs ds l p xs[k].1 xs[k].2.1 xs[k].2.2).1 then 1 else 0) := by
      rw [List.take_succ_eq_append_getElem h0, LL, hr]
     have hg := W5 h0
     simp only [Ag] at dt
     generalize Az xs[k] = t at *
     generalize doI W T cs ds l p xs[k].1 xs[k].2.1 xs[k].2.2 = r at *
     obtain ⟨q, l2, p2⟩ := r
     have htl2 : (AC l2).take l2.length = AC l2 := AG l2
     have hto2 : (oss p2).take p2.length = oss p2 := List.take_of_length_le (by simp [oss])
     simp only at bl hb2 hr2
     have nx := hJ (xs.length - (k + 1)) _ _ ⟨k + 1, l2, p2, _, rfl, h0, hr2, hb2, rfl, .inr rfl⟩
     simp only [Int.natCast_add, Int.cast_ofNat_Int, bw] at nx
     rcases hH with ⟨rfl, rfl, rfl⟩ | rfl
     ·simp [Ai, h0, hg, Ag]
      refine AA val ?_
      simp [hg, h0, Ag]
      (repeat' first | omega | apply And.intro) <;>
      ·refine AA dt ?_
       simp
       (repeat' first | omega | apply And.intro) <;>
       ·refine AA bl ?_
        cases q <;>
        ·simp [okT]
         exact ⟨by omega, _, by omega, nx⟩
     ·simp [Ai, h0, hg, Ag]
      refine AA val ?_
      simp [hg, h0, Ag]
      (repeat' first | omega | apply And.intro) <;>
      ·refine AA dt ?_
       simp
       (repeat' first | omega | apply And.intro) <;>
       ·refine AA bl ?_
        cases q <;>
        ·simp [okT]
         exact ⟨by omega, _, by omega, nx⟩
    ·have hk2 : k = xs.length := by omega
     subst hk2
     rw [List.take_length] at hr
     have sm := UR W T cs ds l p W T cs ds l p (by omega) (by omega) (by omega) (by omega) b5'
     rw [bb] at sm
     by_cases h40 : (40 : Int) < xs.length
     ·have ok : YQ W T cs ds ls ps xs = false := by simp [YQ, hv]; omega
      rw [ok] at run
      simp only [Bool.false_eq_true, if_false] at run
      rcases hH with ⟨rfl, rfl, rfl⟩ | rfl <;>
      ·simp [Ai]
       refine AA run ?_
       simp [hnl, hnl']
       refine AA jt ?_
       simp [tk]
       refine AA val ?_
       simp [h40]
       (repeat' apply And.intro) <;>
       ·refine AA Jl ?_
        simp
     ·have ok : YQ W T cs ds ls ps xs = true := by simp [YQ, hv]; omega
      have er : km W T cs ds ls ps xs = (l, p, c) := hr
      rw [ok, er] at run
      simp only [if_true] at run
      rcases hH with ⟨rfl, rfl, rfl⟩ | rfl <;>
      ·simp [Ai]
       refine AA run ?_
       simp [hnl, hnl']
       refine AA jt ?_
       simp [tk]
       refine AA val ?_
       simp [h40]
       (repeat' apply And.intro) <;>
       ·refine AA sm ?_
        simp
        refine AA Jl ?_
        simp
end Go.Proofs.Dev
