/- Contracts of the functions of the program over slots and rows, each proved against the program itself; no condition beyond those that each theorem names. -/
import Derived.Test.YtfkmfobbgoflgaaGreatDoorAU
import Derived.Test.YtfkmfobbgoflgaaGreatDoorAI
import Derived.Test.YtfkmfobbgoflgaaGreatDoorProg
import Derived.Test.YtfkmfobbgoflgaaGreatDoorAR
import Derived.Test.YtfkmfobbgoflgaaGreatDoorAT
set_option linter.unusedSimpArgs false
set_option linter.unusedVariables false
set_option maxRecDepth 100000
namespace Go.Proofs.Dev
@[simp] abbrev Oj : Nat := 119
abbrev DN : Plan := .alt (.o 21 (.app 1 8 true) [.t 19, .t 20]) (.alt (.o 23 (.call 146 []) [.t 22]) (.take (.o 25 (.build bz [(0, 3), (3, 1), (4, 1), (5, 1)]) [.t 18, .t 21, .t 23, .t 24]) (.alt (.s (.store 6) [.t 4, .t 25]) .done .stop)) .stop) .stop
abbrev Iu : Plan := .alt (.o 21 (.app 1 8 true) [.t 19, .t 20]) (.alt (.o 23 (.call 146 []) [.t 22]) (.alt (.o 24 (.bsl 1) []) (.take (.o 25 (.build bz [(0, 3), (3, 1), (4, 1), (5, 1)]) [.t 18, .t 21, .t 23, .t 24]) (.alt (.s (.store 6) [.t 4, .t 25]) .done .stop)) .stop) (.alt (.o 24 (.bsl 1) []) (.alt (.o 23 (.call 146 []) [.t 22]) (.take (.o 25 (.build bz [(0, 3), (3, 1), (4, 1), (5, 1)]) [.t 18, .t 21, .t 23, .t 24]) (.alt (.s (.store 6) [.t 4, .t 25]) .done .stop)) .stop) .stop)) (.alt (.o 24 (.bsl 1) []) DN .stop)
abbrev DP : Plan := .alt (.o 17 (.app 1 1 true) [.t 14, .t 16]) (.take (.o 18 (.build rz [(0, 1), (1, 1), (2, 1)]) [.t 11, .t 13, .t 17]) DN) .stop
abbrev Iv : Plan := .alt (.o 17 (.app 1 1 true) [.t 14, .t 16]) (.take (.o 18 (.build rz [(0, 1), (1, 1), (2, 1)]) [.t 11, .t 13, .t 17]) (.alt (.o 19 (.bsl 1) []) DN .stop)) (.alt (.o 19 (.bsl 1) []) DP .stop)
abbrev Iw : Plan := .alt (.o 17 (.app 1 1 true) [.t 14, .t 16]) (.take (.o 18 (.build rz [(0, 1), (1, 1), (2, 1)]) [.t 11, .t 13, .t 17]) Iu) (.alt (.o 24 (.bsl 1) []) DP .stop)
def Lz : BCode := (.early [.f 10 0 2, .l 11 10, .f 12 1 2, .l 13 12, .f 15 2 2, .l 16 15, .m 20 1, .la 22 3 2] (.alt (.o 14 (.bsl 1) []) (.alt (.o 17 (.app 1 1 true) [.t 14, .t 16]) (.take (.o 18 (.build rz [(0, 1), (1, 1), (2, 1)]) [.t 11, .t 13, .t 17]) (.alt (.o 19 (.bsl 1) []) Iu (.alt (.o 24 (.bsl 1) []) (.alt (.o 19 (.bsl 1) []) DN .stop) .stop))) (.alt (.o 19 (.bsl 1) []) Iw (.alt (.o 24 (.bsl 1) []) Iv .stop))) (.alt (.o 19 (.bsl 1) []) (.alt (.o 14 (.bsl 1) []) Iw (.alt (.o 24 (.bsl 1) []) (.alt (.o 14 (.bsl 1) []) DP .stop) .stop)) (.alt (.o 24 (.bsl 1) []) (.alt (.o 14 (.bsl 1) []) Iv (.alt (.o 19 (.bsl 1) []) (.alt (.o 14 (.bsl 1) []) DP .stop) .stop)) .stop))))
def Ok : BCode := (.seq (.base (.reg [.o 2 .box [.t 0], .o 4 (.alloc bz) []])) (.seq (.base (.seq (.reg [.la 5 3 2, .m 6 1, .o 7 (.call 121 []) [.t 5, .t 6], .o 8 (.un .not) [.t 7]]) (.cond (.t 8) (.seq (.reg [.o 9 (.build bz []) [], .s (.store 6) [.t 4, .t 9]]) .ret) .skip))) (.seq (.frz 2 Lz) (.base .ret))))
theorem Vk : jN Tryz.prog Oj 26 [(RV.c 4 true 6)] Ok := ⟨Tryz.f119, _, Tryz.func119, rfl, by kernel_rfl, by kernel_rfl, by kernel_rfl, by kernel_rfl⟩
theorem PG (xs : List Bool) (hx : xs.length < 2 ^ 40) : SoundAt Tryz.prog FO [.sl 1 1 (AC xs)] (.os 1 (AC xs)) [.bot] := by
 refine AE (md := md0) (ms := [false]) Kx (by simp) ?_
 simp [FP]
 refine ⟨fun h => by omega, fun h => ?_⟩
 subst h
 simp
theorem Qy (xs : List Bool) : SoundAt Tryz.prog Fq [.os 1 (AC xs)] (.os 1 (AC xs)) [.bot] := by
 refine AE (md := md0) (ms := [false]) LR (by simp) ?_
 simp [Fr]
theorem Rq (xs : List Bool) (hx : xs.length < 2 ^ 40) : SoundAt Tryz.prog Kv [.sl 1 1 (AC xs)] (.os 1 (AC xs)) [.bot] := by
 refine AE (md := md0) (ms := [false]) Ro (by simp) ?_
 simp [Kw]
 refine AA (PG xs hx) ?_
 simp
 refine AA (Qy xs) ?_
 simp
def jl (W T : Int) (cs : List Bool) (ds : List Int) : AV := if (A0 W T cs && Cg cs ds) = true then bkO W T cs ds (BO cs) [] else bkO 0 0 [] [] [] []
set_option maxHeartbeats 4000000 in
theorem Ol (W T : Int) (cs : List Bool) (ds : List Int) (hb : cs.length < 2 ^ 40) (hd : ds.length < 2 ^ 40) :
  SoundAt Tryz.prog Oj [.agg [.v (.int .i64 W), .v (.int .i64 T), .sl 1 1 (AC cs)], .sl 1 1 (AB ds)] (jl W T cs ds) [.bot, .bot] := by
 refine YH (md := md0) (ms := [false, false]) Vk (by simp) ?_
 simp [Ok]
 refine AA (CP W T cs ds hb hd) ?_
 cases hv : (A0 W T cs && Cg cs ds) with
 | false => simp [jl, hv]
 | true =>
 have hr : A0 W T cs = true := by simp only [Bool.and_eq_true] at hv; exact hv.1
 simp [jl, hv]
 refine YI rfl rfl rfl ?_
 have one := Ij W T cs hb
 rw [if_pos hr] at one
 simp [Lz]
 (repeat' first | assumption | omega | apply And.intro) <;>
 ·refine AA one ?_
  simp
theorem St (n : Nat) (k : Int) (h0 : 0 ≤ k) (h1 : k < 2 ^ 40) (hb : n < 2 ^ 40) :
  SoundAt Tryz.prog Lx [.sl 1 1 (AC (D5 n k)), .v (.int .i64 k)] (.v (.int .i64 (k + n))) [.bot, .bot] := by
 refine AE (md := md0) (ms := [false, false]) Ss (by simp) ?_
 simp [Ly]
 refine AF (fun m E H => ∃ i : Nat, m = n - i ∧ i ≤ n ∧ H = [] ∧ E = [(0, .sl 1 1 (AC (D5 n k))), (1, .v (.int .i64 (k + i))), (5, .v (.int .i64 i))]) n ⟨0, by simp⟩ ?_
 rintro J hJ m E H ⟨i, rfl, hi, rfl, rfl⟩
 simp [It, Hd]
 refine ⟨fun h => ?_, fun h => ?_⟩
 ·have e : atb (D5 n k) i = ((k + i) % 3 == 0) := by simp [atb, D5, h]
  have hl := Hd n k
  simp [e, h]
  exact ⟨by omega, by omega, by omega, _, by omega, hJ _ _ _ ⟨i + 1, rfl, h, rfl, by simp; omega⟩⟩
 ·have : i = n := by omega
  subst this
  simp
theorem Rr (W T : Int) (n : Nat) (k : Int) (h0 : 0 ≤ k) (h1 : k < 2 ^ 40) (hb : n < 2 ^ 40) :
  SoundAt Tryz.prog Ky [.agg [.v (.int .i64 W), .v (.int .i64 T), .sl 1 1 (AC (D5 n k))], .v (.int .i64 k)] (.v (.int .i64 (k + n))) [.bot, .bot] := by
 refine AE (md := md0) (ms := [false, false]) Rp (by simp) ?_
 simp [Kz]
 refine AA (St n k h0 h1 hb) ?_
 have hn : ¬ (k + (n : Int) < 0) := by omega
 simp [hn]
def mkC (k : Int) (cs : List Bool) : List Bool := D5 cs.length k
def mkD (k : Int) (cs : List Bool) (ds : List Int) : List Int := A9 ds.length (k + cs.length)
def mkL (k : Int) (cs : List Bool) (ds ls : List Int) : List Int := A9 ls.length (k + cs.length + ds.length)
def mkP (k : Int) (cs : List Bool) (ds ls : List Int) (ps : List (List Int)) : List (List Int) := BM (k + cs.length + ds.length + ls.length) ps
def XY (k : Int) (cs : List Bool) (ds ls : List Int) (ps : List (List Int)) : Int := k + cs.length + ds.length + ls.length + Dn ps
@[simp] theorem ka (k : Int) (cs : List Bool) : (mkC k cs).length = cs.length := by simp [mkC]
@[simp] theorem ke (k : Int) (cs : List Bool) (ds : List Int) : (mkD k cs ds).length = ds.length := by simp [mkD]
@[simp] theorem kf (k : Int) (cs : List Bool) (ds ls : List Int) : (mkL k cs ds ls).length = ls.length := by simp [mkL]
@[simp] theorem kg (k : Int) (cs : List Bool) (ds ls : List Int) (ps : List (List Int)) : (mkP k cs ds ls ps).length = ps.length := by simp [mkP]
@[simp] theorem nK (k : Int) (cs : List Bool) : (AC (mkC k cs)).take cs.length = AC (mkC k cs) := List.take_of_length_le (by simp)
@[simp] theorem nL (k : Int) (cs : List Bool) (ds : List Int) : (AB (mkD k cs ds)).take ds.length = AB (mkD k cs ds) := List.take_of_length_le (by simp)
@[simp] theorem nM (k : Int) (cs : List Bool) (ds ls : List Int) : (AB (mkL k cs ds ls)).take ls.length = AB (mkL k cs ds ls) := List.take_of_length_le (by simp)
@[simp] theorem nN (k : Int) (cs : List Bool) (ds ls : List Int) (ps : List (List Int)) : (oss (mkP k cs ds ls ps)).take ps.length = oss (mkP k cs ds ls ps) := List.take_of_length_le (by simp)
@[simp] theorem n8 (k : Int) (cs : List Bool) (ds ls : List Int) : mkP k cs ds ls [] = [] := (rfl)
theorem Fs (W T : Int) (cs : List Bool) (ds ls : List Int) (ps : List (List Int)) (k : Int) (h0 : 0 ≤ k) (h1 : k < 2 ^ 21) (hc : cs.length < 2 ^ 21) (hd : ds.length < 2 ^ 21) (hl : ls.length < 2 ^ 21) (hs : Dn ps < 2 ^ 50) (hb : ps.length < 2 ^ 40) (hp : ∀ p ∈ ps, p.length < 2 ^ 40) :
  SoundAt Tryz.prog NH [bkO W T cs ds ls ps, .v (.int .i64 k)] (.v (.int .i64 (XY k cs ds ls ps))) [bkO W T (mkC k cs) (mkD k cs ds) (mkL k cs ds ls) (mkP k cs ds ls ps), .bot] := by
 refine AE (md := md0) (ms := [true, false]) Ua (by simp) ?_
 simp [NI]
 refine AA (RR W T cs k (by omega) (by omega) (by omega)) ?_
 simp
 refine AA (Me ds (k + cs.length) (by omega) (by omega) (by omega)) ?_
 simp
 refine AA (Me ls (k + cs.length + ds.length) (by omega) (by omega) (by omega)) ?_
 simp
 refine AA (Sq ps (k + cs.length + ds.length + ls.length) (by omega) (by omega) hb hp) ?_
 simp [XY, mkC, mkD, mkL, mkP]
theorem NJ (W T : Int) (cs : List Bool) (ds ls : List Int) (ps : List (List Int)) (k : Int) (h0 : 0 ≤ k) (h1 : k < 2 ^ 21) (hc : cs.length < 2 ^ 21) (hd : ds.length < 2 ^ 21) (hl : ls.length < 2 ^ 21) (hs : Dn ps < 2 ^ 50) (hb : ps.length < 2 ^ 40) (hp : ∀ p ∈ ps, p.length < 2 ^ 40) :
  SoundAt Tryz.prog NF [bkA W T (mkC k cs) (mkD k cs ds) (mkL k cs ds ls) (mkP k cs ds ls ps), .v (.int .i64 k)] (.v (.int .i64 (XY k cs ds ls ps))) [.bot, .bot] := by
 refine AE (md := md0) (ms := [false, false]) UZ (by simp) ?_
 simp [NG]
 refine AA (Rr W T cs.length k (by omega) (by omega) (by omega)) ?_
 have h2 : ¬ (k + (cs.length : Int) < 0) := by omega
 simp [h2, mkC]
 refine AA (Mf ds.length (k + cs.length) (by omega) (by omega) (by omega)) ?_
 have h3 : ¬ (k + (cs.length : Int) + ds.length < 0) := by omega
 simp [h3, mkD]
 refine AA (Mf ls.length (k + cs.length + ds.length) (by omega) (by omega) (by omega)) ?_
 have h4 : ¬ (k + (cs.length : Int) + ds.length + ls.length < 0) := by omega
 simp [h4, mkL]
 refine AA (Sr ps (k + cs.length + ds.length + ls.length) (by omega) (by omega) hb hp) ?_
 have h5 : ¬ (k + (cs.length : Int) + ds.length + ls.length + Dn ps < 0) := by omega
 simp [h5, mkP, XY]
theorem Ub (W T : Int) (cs : List Bool) (ls : List Int) (c : Int) (hr : A0 W T cs = true) (hy : AO W T cs ls = true) :
  SoundAt Tryz.prog Gp [.agg [.v (.int .i64 W), .v (.int .i64 T), .sl 1 1 (AC cs)], .sl 1 1 (AB ls), .v (.int .i64 c)]
   (.tup [.os 1 (AB (Sl W T cs ls c)), .v (.bool (Lw W T cs ls c))]) [.bot, .bot, .bot] := by
 have hl := Ap hy
 have h36 := AZ hr
 by_cases hin : 0 ≤ c ∧ c < ls.length
 ·have := Vi W T cs ls c.toNat hr hy (by omega)
  rw [show ((c.toNat : Nat) : Int) = c by omega] at this
  by_cases hz : ati ls c = 0
  ·have e : Ei ls c = false := by simp [Ei, hz]
   rw [if_pos hz] at this
   simpa [Sl, Lw, hr, hy, e] using this
  ·have e : Ei ls c = true := by simp [Ei, hz, hin]
   rw [if_neg hz] at this
   simpa [Sl, Lw, hr, hy, e] using this
 ·have e : Ei ls c = false := by simp [Ei]; omega
  refine AE (md := md5) (ms := [false, false, false]) Oa (by simp) ?_
  simp [KG, Sl, Lw, hr, hy, e]
  refine AA (BV W T cs ls (by omega) (by omega)) ?_
  simp [hr, hy]
  refine ⟨by omega, by omega, ?_⟩
  refine AA (ER (x := c) (lo := 0) (hi := (ls.length : Int) - 1) (by omega)) ?_
  simp
def HJ (W T : Int) (cs : List Bool) (ds ls : List Int) (kind spot way : Int) : List Int :=
 if kind = 0 then CB W T cs ls spot way else if kind = 1 then (if Ei ls spot = true then LL W T ls spot else ls) else if kind = 2 then HI W T ls spot else if kind = 3 then BA W T cs ds ls else []
def Rs (W T : Int) (cs : List Bool) (ds ls : List Int) (kind spot way : Int) : Bool :=
 if kind = 0 then BU W T cs ls spot way else if kind = 1 then Ei ls spot else if kind = 2 then F4 W T ls spot else if kind = 3 then decide (BA W T cs ds ls ≠ ls) else false
def doI (W T : Int) (cs : List Bool) (ds ls : List Int) (ps : List (List Int)) (kind spot way : Int) : Bool × List Int × List (List Int) :=
 Kh (XX (kind, spot, way)) kind ls ps (HJ W T cs ds ls kind spot way) (Rs W T cs ds ls kind spot way && Af W T cs ds (HJ W T cs ds ls kind spot way))
theorem L0 (W T : Int) (cs : List Bool) (ds ls : List Int) : (BA W T cs ds ls).length = ls.length := by unfold BA; rw [Lf]
theorem SJ (W T : Int) (cs : List Bool) (ds ls : List Int) (kind spot way : Int) : (HJ W T cs ds ls kind spot way).length ≤ ls.length := by
 unfold HJ
 split
 ·rw [Va]; exact Nat.le_refl _
 split
 ·split
  ·rw [M7]; exact Nat.le_refl _
  ·exact Nat.le_refl _
 split
 ·rw [Ye]; exact Nat.le_refl _
 split
 ·rw [L0]; exact Nat.le_refl _
 ·simp
theorem Aa {W T : Int} {cs : List Bool} {ds ls : List Int} {ps : List (List Int)} (h : Am W T cs ds ls ps = true) :
  Af W T cs ds ls = true ∧ ps.length ≤ 20 ∧ ∀ p ∈ ps, Af W T cs ds p = true := by
 simp only [Am, VV, Bool.and_eq_true, decide_eq_true_eq, Co] at h
 refine ⟨h.1.1, h.1.2, fun p hp => ?_⟩
 obtain ⟨i, hi, rfl⟩ := List.mem_iff_getElem.1 hp
 have := h.2 i hi
 rwa [ED hi] at this
theorem dk {W T : Int} {cs : List Bool} {ds ls : List Int} {ps : List (List Int)} (h1 : Af W T cs ds ls = true) (h2 : ps.length ≤ 20) (h3 : ∀ p ∈ ps, Af W T cs ds p = true) : Am W T cs ds ls ps = true := by
 simp only [Am, VV, Bool.and_eq_true, decide_eq_true_eq, Co]
 refine ⟨⟨h1, h2⟩, fun i hi => ?_⟩
 rw [ED hi]
 exact h3 _ (List.getElem_mem hi)
theorem Ct {W T : Int} {cs : List Bool} {ds ls : List Int} (h : Af W T cs ds ls = true) : cs.length ≤ 36 ∧ ds.length = cs.length ∧ ls.length = cs.length := by
 obtain ⟨hr, hd, hy, _⟩ := AR h
 have hd2 := hd
 simp only [Cg, Bool.and_eq_true, decide_eq_true_eq] at hd2
 exact ⟨AZ hr, hd2.1, Ap hy⟩
theorem Nq {k s w : Int} (h : XX (k, s, w) = true) : k = 0 ∨ k = 1 ∨ k = 2 ∨ k = 3 ∨ k = 4 := by
 unfold XX at h
 simp only at h
 split at h
 ·omega
 split at h
 ·omega
 split at h
 ·omega
 ·cases h
theorem bZ {ls q : List Int} {qs : List (List Int)} {n : List Int} {b : Bool} : Kh true 4 ls (qs ++ [q]) n b = (true, q, qs) := by simp [Kh]
theorem ba {ls : List Int} {n : List Int} {b : Bool} : Kh true 4 ls [] n b = (false, ls, []) := by simp [Kh]
theorem Qz (W T : Int) (cs : List Bool) (ds ls : List Int) (ps : List (List Int)) (kind spot way : Int)
  (hc : cs.length ≤ 40) (hd : ds.length ≤ 40) (hl : ls.length ≤ 40) (hps : ps.length ≤ 40) (hp : ∀ p ∈ ps, p.length ≤ 40) :
  SoundAt Tryz.prog Hj [bkA W T cs ds ls ps, Nv kind spot way]
   (.tup [if Am W T cs ds ls ps = true then bkO W T cs ds (doI W T cs ds ls ps kind spot way).2.1 (doI W T cs ds ls ps kind spot way).2.2 else bkO 0 0 [] [] [] [], .v (.bool (Am W T cs ds ls ps && (doI W T cs ds ls ps kind spot way).1))]) [.bot, .bot] := by
 have hv := Bm W T cs ds ls ps (by omega) (by omega) (by omega) (by omega) (fun p h => by have := hp p h; omega)
 cases ok : Am W T cs ds ls ps with
 | false =>
   rw [ok] at hv
   refine AE (md := md5) (ms := [false, false]) Qr (by simp) ?_
   simp [Hl]
   refine AA hv ?_
   simp
 | true =>
 rw [ok] at hv
 obtain ⟨hf, h20, hpf⟩ := Aa ok
 obtain ⟨hr, hdg, hy, ho⟩ := AR hf
 obtain ⟨l36, ld, ll⟩ := Ct hf
 have hnl := SJ W T cs ds ls kind spot way
 have hnew := Ol W T cs ds (by omega) (by omega)
 have enew : jl W T cs ds = bkO W T cs ds (BO cs) [] := by simp [jl, hr, hdg]
 rw [enew] at hnew
 have hcopy := Og Oh W T cs ds ls (BO cs) ps hc hd hl (by omega) hp (by simp [BO]; omega) hnew
 have hnamed := UY (kind, spot, way)
 refine SoundSet.at (SoundSet.mono ?_ (Vb Qr W T cs ds ls ps kind spot way hc hd hl h20 hp true (XX (kind, spot, way)) (HJ W T cs ds ls kind spot way) (Rs W T cs ds ls kind spot way)
  (if A0 W T cs && AO W T cs (HJ W T cs ds ls kind spot way) then (JA (HJ W T cs ds ls kind spot way) : Int) else -1) (if A0 W T cs && AO W T cs ls then (JA ls : Int) else -1) hv (fun _ => hcopy) hnamed
  ?_ ?_ ?_ ?_ (Ic W T cs _ (by omega) (by omega)) (Ic W T cs ls (by omega) (by omega)) ?_ (by omega)
  (fun r ups => r = .tup [bkO W T cs ds (doI W T cs ds ls ps kind spot way).2.1 (doI W T cs ds ls ps kind spot way).2.2, .v (.bool (doI W T cs ds ls ps kind spot way).1)] ∧ ups = [.bot, .bot]) ?_ ?_ ?_ ?_ ?_ ?_))
 ·rintro r ups ⟨rfl, rfl⟩
  exact ⟨by simp, rfl⟩
 ·rintro _ rfl
  have := Hg W T cs ls spot way hr hy
  simpa [HJ, Rs] using this
 ·rintro _ rfl
  have := Ub W T cs ls spot hr hy
  simpa [HJ, Rs, Sl, Lw, hr, hy] using this
 ·rintro _ rfl
  have := Vh W T cs ls spot (by omega) (by omega)
  simpa [HJ, Rs, jj, mJ, hr, hy] using this
 ·rintro _ rfl
  have := UJ W T cs ds ls (by omega) (by omega) (by omega)
  simpa [HJ, Rs, QL, hf] using this
 ·rintro _ rfl
  have h1 := XW hf
  have h2 := (OX hf).1
  obtain ⟨_, _, hy2, _⟩ := AR h2
  simp only [Rs, HJ]
  simp [hr, hy, hy2]
  by_cases hq : BA W T cs ds ls = ls
  ·have : ¬ JA ls < JA (BA W T cs ds ls) := fun h => h1.1 h hq
   simp [hq]
  ·simp [hq, h1.2 hq]
 ·intro h; cases h
 ·intro _ hn
  have e : doI W T cs ds ls ps kind spot way = (false, ls, ps) := by simp [doI, Kh, hn]
  rw [e]; exact ⟨rfl, rfl⟩
 ·intro _ hn hk he
  have hk4 : kind = 4 := by have := Nq hn; omega
  subst hk4 he
  have e : doI W T cs ds ls [] 4 spot way = (false, ls, []) := by unfold doI; rw [hn, ba]
  rw [e]; exact ⟨rfl, rfl⟩
 ·intro _ hn hk q qs he
  have hk4 : kind = 4 := by have := Nq hn; omega
  subst hk4 he
  have e : doI W T cs ds ls (qs ++ [q]) 4 spot way = (true, q, qs) := by unfold doI; rw [hn, bZ]
  rw [e]; exact ⟨rfl, rfl⟩
 ·intro _ hn hk hb
  have e : doI W T cs ds ls ps kind spot way = (false, ls, ps) := by unfold doI; rw [hb]; simp [Kh]; omega
  rw [e]; exact ⟨rfl, rfl⟩
 ·intro _ hn hk hb
  have e : doI W T cs ds ls ps kind spot way = (true, HJ W T cs ds ls kind spot way, Fi ls ps) := by unfold doI; rw [hb, hn]; simp [Kh]; omega
  rw [e]; exact ⟨rfl, rfl⟩
@[simp] abbrev Su : Nat := 167
@[simp] abbrev Vl : Nat := 120
@[simp] abbrev Vm : Nat := 57
@[simp] abbrev Q0 : Nat := 17
@[simp] abbrev Uc : Nat := 58
@[simp] def md8 (f : Nat) : List Bool := if f = Su then [true, false, false] else if f = Vl ∨ f = Vm ∨ f = Uc then [true, false] else if f = 999999 ∨ f = 999999 ∨ f = 999999 ∨ f = 999999 ∨ f = Q0 ∨ f = 999999 then [true] else md5 f
theorem fw {W T : Int} {cs : List Bool} {ds ls : List Int} {ps : List (List Int)} (k s w : Int) (h : Am W T cs ds ls ps = true) : Am W T cs ds (doI W T cs ds ls ps k s w).2.1 (doI W T cs ds ls ps k s w).2.2 = true := by
 obtain ⟨h1, h2, h3⟩ := Aa h
 unfold doI Kh
 split
 ·exact h
 split
 ·rcases List.eq_nil_or_concat ps with rfl | ⟨qs, q, hq⟩
  ·exact h
  ·rw [List.concat_eq_append] at hq
   subst hq
   simp only [List.getLast?_append, List.getLast?_singleton, Option.some_or, List.dropLast_concat]
   simp at h2
   exact dk (h3 q (by simp)) (by omega) (fun p hp => h3 p (by simp [hp]))
 split
 ·rename_i hb
  simp only [Bool.and_eq_true] at hb
  refine dk hb.2 ?_ ?_
  ·simp [Fi]; omega
  ·intro p hp
   have := List.mem_of_mem_drop hp
   simp at this
   rcases this with h4 | rfl
   ·exact h3 p h4
   ·exact h1
 ·exact h
abbrev dl (i : Nat) (W T : Int) (cs : List Bool) (ds ls : List Int) (ps : List (List Int)) : List AV := [.v (.int .i64 W), .v (.int .i64 T), .ls 1 i 0 cs.length, .ls 1 (i + 1) 0 ds.length, .ls 1 (i + 2) 0 ls.length, .ls 1 (i + 3) 0 ps.length]
theorem Vn (xs ys : List Int) (ha : xs.length < 2 ^ 40) :
  SoundAt Tryz.prog GH [.sl 1 1 (AB xs), .sl 1 1 (AB ys)] (.v (.bool (decide (xs = ys)))) [.bot, .bot] := by
 refine AE (md := md0) (ms := [false, false]) MI (by simp) ?_
 simp [GI]
 refine ⟨fun h => ?_, fun hl => ?_⟩
 ·intro e; subst e; exact h rfl
 refine AF (fun m E H => ∃ i : Nat, m = xs.length - i ∧ i ≤ xs.length ∧ xs.take i = ys.take i ∧ H = [] ∧ E = [(0, .sl 1 1 (AB xs)), (1, .sl 1 1 (AB ys)), (12, .v (.int .i64 xs.length)), (13, .v (.int .i64 i))]) xs.length ⟨0, by simp⟩ ?_
 rintro J hJ m E H ⟨i, rfl, hi, he, rfl, rfl⟩
 by_cases h : i < xs.length
 case neg =>
  have h1 : i = xs.length := by omega
  subst h1
  have e : xs = ys := by
   rw [List.take_length] at he
   rw [he]; exact List.take_of_length_le (by omega)
  simp [BZ, e]
 have h2 : i < ys.length := by omega
 have key : (ati xs i = ati ys i) → xs.take (i + 1) = ys.take (i + 1) := by
  intro e
  rw [List.take_succ_eq_append_getElem h, List.take_succ_eq_append_getElem (by omega), he]
  simp [ati, h, h2] at e
  rw [e]
 have key2 : ¬ (ati xs i = ati ys i) → ¬ xs = ys := fun e e2 => e (by rw [e2])
 by_cases e : ati xs i = ati ys i
 ·simp [BZ, h, h2, e]
  exact ⟨by omega, _, by omega, hJ _ _ _ ⟨i + 1, rfl, h, key e, rfl, rfl⟩⟩
 ·simp [BZ, h, h2, e, key2 e]
abbrev cpH (W T : Int) (cs : List Bool) (ds ls : List Int) (qs : List (List Int)) : AH :=
 [some (.box [.v (.int .i64 0), .v (.int .i64 0), .os 1 [], .os 1 [], .os 1 [], .os 1 []]), some (.box (dl 2 W T cs ds ls qs)),
  some (.arr 1 (AC cs)), some (.arr 1 (AB ds)), some (.arr 1 (AB ls)), some (.arr 1 (oss qs))]
def cpP (ps : List (List Int)) (i : Nat) : List (List Int) := ps.take i ++ List.replicate (ps.length - i) []
theorem Rt (ps : List (List Int)) {i : Nat} (h : i ≤ ps.length) : (cpP ps i).length = ps.length := by simp [cpP]; omega
theorem jm (ps : List (List Int)) {i : Nat} (h : i < ps.length) : (oss (cpP ps i)).set i (.os 1 (AB (pti ps i))) = oss (cpP ps (i + 1)) := by
 unfold oss
 rw [← List.map_set]
 congr 1
 unfold cpP
 rw [List.set_append_right _ _ (by simp; omega), show i - (ps.take i).length = 0 by simp; omega, show ps.length - i = (ps.length - (i + 1)) + 1 by omega, List.replicate_succ, List.set_cons_zero,
  ED h]
 have e : ps.take (i + 1) = ps.take i ++ [ps[i]] := List.take_succ_eq_append_getElem h
 rw [e, List.append_assoc]; rfl
theorem n9 (W T : Int) (cs : List Bool) (ds ls : List Int) (ps : List (List Int)) (hb : ps.length ≤ 100) (hp : ∀ p ∈ ps, p.length ≤ 100) (Qc : AExit → ES → AH → Prop)
  (hend : ∀ E : ES, get E 2 = .lp 0 0 0 0 → get E 3 = .lp 0 1 0 0 → Qc (.exit 0) E (cpH W T cs ds ls ps)) :
  EO [(29, 1)] [2, 3, 29, 30, 31] (awp Tryz.prog mdo Cc) Qc [(2, .lp 0 0 0 0), (3, .lp 0 1 0 0), (29, .sl 1 1 (sls 1 ps)), (30, .v (.int .i64 ps.length)), (31, .v (.int .i64 0))] (cpH W T cs ds ls (cpP ps 0)) := by
 refine AF (fun m E H => ∃ i : Nat, m = ps.length - i ∧ i ≤ ps.length ∧ E = [(2, .lp 0 0 0 0), (3, .lp 0 1 0 0), (29, .sl 1 1 (sls 1 ps)), (30, .v (.int .i64 ps.length)), (31, .v (.int .i64 i))] ∧ H = cpH W T cs ds ls (cpP ps i)) ps.length ⟨0, by simp⟩ ?_
 rintro J hJ m E H ⟨i, rfl, hi, rfl, rfl⟩
 have hl := Rt ps hi
 by_cases h : i < ps.length
 case neg =>
  have h1 : i = ps.length := by omega
  subst h1
  have e : cpP ps ps.length = ps := by simp [cpP]
  simp [Cc]
  rw [e]
  exact hend _ rfl rfl
 have hpi : (pti ps i).length ≤ 100 := by rw [ED h]; exact hp _ (List.getElem_mem h)
 have hset := jm ps h
 have hl2 := Rt ps (show i + 1 ≤ ps.length by omega)
 have nx := hJ (ps.length - (i + 1)) _ _ ⟨i + 1, rfl, h, rfl, rfl⟩
 simp only [cpH, dl, hl2, ← hset, Int.natCast_add, Int.natCast_one] at nx
 simp [Cc, h]
 (repeat' first | omega | apply And.intro) <;>
 ·refine AA (Ag (pti ps i) (by omega)) ?_
  simp [h, hl]
  exact ⟨by omega, _, by omega, nx⟩
set_option maxHeartbeats 8000000 in
theorem Jv (W T : Int) (cs : List Bool) (ds ls : List Int) (ps : List (List Int)) (hc : cs.length ≤ 100) (hd : ds.length ≤ 100) (hl : ls.length ≤ 100) (hb : ps.length ≤ 100) (hp : ∀ p ∈ ps, p.length ≤ 100) :
  SoundAt Tryz.prog Ju [bkA W T cs ds ls ps] (bkO W T cs ds ls ps) [.bot] := by
 refine YH (md := mdo) (ms := [false]) Qu (by simp) ?_
 have t1 : (AB ds).take ds.length = AB ds := AD ds
 have t2 : (AB ls).take ls.length = AB ls := AD ls
 have t3 : (oss ps).take ps.length = oss ps := List.take_of_length_le (by simp [oss])
 have e0 : List.replicate ps.length (AV.os 1 []) = oss (cpP ps 0) := by simp [cpP, oss]
 have hl0 : (cpP ps 0).length = ps.length := Rt ps (by omega)
 have lp := n9 W T cs ds ls ps hb hp
 simp only [cpH, dl, hl0, ← e0] at lp
 simp [HW]
 refine YI rfl rfl rfl ?_
 simp
 (repeat' first | omega | apply And.intro) <;>
 ·refine AA (Rq cs (by omega)) ?_
  simp
  (repeat' first | omega | apply And.intro) <;>
  ·refine AA (Ag ds (by omega)) ?_
   simp
   (repeat' first | omega | apply And.intro) <;>
   ·refine AA (Ag ls (by omega)) ?_
    simp [HB]
    (repeat' first | omega | apply And.intro) <;>
    ·refine lp _ ?_
     intro E e2 e3
     simp [e2, e3, t1, t2, t3]
theorem dm {W T : Int} {cs : List Bool} {ds ls : List Int} {k s w : Int} (hf : Af W T cs ds ls = true) (hk : k = 0 ∨ k = 1 ∨ k = 2 ∨ k = 3) : AO W T cs (HJ W T cs ds ls k s w) = true := by
 obtain ⟨hr, hd, hy, ho⟩ := AR hf
 unfold HJ
 split
 ·unfold CB
  split
  ·rename_i h; exact N5 hr hy h
  ·exact hy
 split
 ·split
  ·rename_i h
   simp only [Ei, decide_eq_true_eq] at h
   have := dX (k := s.toNat) hr hy (by omega) (by rw [show ((s.toNat : Nat) : Int) = s by omega]; exact h.2.2)
   rw [show ((s.toNat : Nat) : Int) = s by omega] at this
   exact this
  ·exact hy
 split
 ·by_cases hfl : F4 W T ls s = true
  ·exact (dc hr hy hfl).2
  ·have e : HI W T ls s = ls := by simp [HI, hfl]
   rw [e]; exact hy
 split
 ·exact (AR (OX hf).1).2.2.1
 ·omega
theorem Om (W T : Int) (cs : List Bool) (ds ls : List Int) (ps : List (List Int)) (k s w : Int) (h : Am W T cs ds ls ps = true) (hs : s ≤ 9223372036854775807) :
  SoundAt Tryz.prog B5 [OT W T cs ds ls ps, Nv k s w] (.v (.bool (doI W T cs ds ls ps k s w).1)) [OT W T cs ds (doI W T cs ds ls ps k s w).2.1 (doI W T cs ds ls ps k s w).2.2, .bot] := by
 obtain ⟨hf, h20, hpf⟩ := Aa h
 obtain ⟨hr, hdg, hy, ho⟩ := AR hf
 obtain ⟨l36, ld, ll⟩ := Ct hf
 have hnl := SJ W T cs ds ls k s w
 unfold doI
 refine dH Ve W T cs ds ls (HJ W T cs ds ls k s w) ps k s w (XX (k, s, w)) (Rs W T cs ds ls k s w) (Af W T cs ds (HJ W T cs ds ls k s w)) (by omega) (by omega) (by omega) (Rn (k, s, w)) ?_ ?_ (fun us h1 h2 => Sm us h1 h2)
 ·intro hn hk4
  have hk : k = 0 ∨ k = 1 ∨ k = 2 ∨ k = 3 := by have := Nq hn; omega
  have h0 := XV W T cs ls s w (by omega) (by omega)
  have h1 := VZ W T cs ls s (by omega) (by omega)
  have h2 := Qv W T cs ls s hr ll hs
  have h3 := ME W T cs ds ls hf
  have h4 := Vn (BA W T cs ds ls) ls (by rw [L0]; omega)
  have := XH Qs W T cs ds ls _ _ _ _ ps k s w _ _ _ _ h0 h1 h2 h3 h4
  have e : Sa k (jh W T cs ls s w) (Sl W T cs ls s) (HI W T ls s) (BA W T cs ds ls) (Zb W T cs ls s w) (Lw W T cs ls s) (F4 W T ls s) (!decide (BA W T cs ds ls = ls)) =
    (HJ W T cs ds ls k s w, Rs W T cs ds ls k s w) := by
   rcases hk with rfl | rfl | rfl | rfl
   ·simp [Sa, HJ, Rs, jh, Zb, hr, hy]
   ·simp [Sa, HJ, Rs, Sl, Lw, hr, hy]
   ·simp [Sa, HJ, Rs]
   ·simp [Sa, HJ, Rs]
  rw [e] at this
  exact this
 ·intro hn hk4
  have hk : k = 0 ∨ k = 1 ∨ k = 2 ∨ k = 3 := by have := Nq hn; omega
  have hy2 := dm (s := s) (w := w) hf hk
  have hok : okB W T cs ds (HJ W T cs ds ls k s w) = true := by simp [okB, hr, hdg, hy2]
  have e : Af W T cs ds (HJ W T cs ds ls k s w) = KP (B3 W T ds (HJ W T cs ds ls k s w)) := by simp [Af, hok]
  rw [e]
  exact Dk W T cs ds _ hok
end Go.Proofs.Dev
