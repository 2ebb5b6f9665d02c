/- Contracts of the functions of the program over slots and rows, each proved against the program itself; no condition beyond those that each theorem names. -/
import Derived.Test.YtfkmfobbgoflgaaGreatDoorAU
import Derived.Test.YtfkmfobbgoflgaaGreatDoorAI
import Derived.Test.YtfkmfobbgoflgaaGreatDoorProg
import Derived.Test.YtfkmfobbgoflgaaGreatDoorAR
import Derived.Test.YtfkmfobbgoflgaaGreatDoorAT
set_option linter.unusedSimpArgs false
set_option linter.unusedVariables false
set_option maxRecDepth 100000
namespace Go.Proofs.Dev
@[simp] abbrev OQ : Nat := 119
abbrev DI : Plan := .alt (.o 21 (.app 1 8 true) [.t 19, .t 20]) (.alt (.o 23 (.call 146 []) [.t 22]) (.take (.o 25 (.build bz [(0, 3), (3, 1), (4, 1), (5, 1)]) [.t 18, .t 21, .t 23, .t 24]) (.alt (.s (.store 6) [.t 4, .t 25]) .done .stop)) .stop) .stop
abbrev Ii : Plan := .alt (.o 21 (.app 1 8 true) [.t 19, .t 20]) (.alt (.o 23 (.call 146 []) [.t 22]) (.alt (.o 24 (.bsl 1) []) (.take (.o 25 (.build bz [(0, 3), (3, 1), (4, 1), (5, 1)]) [.t 18, .t 21, .t 23, .t 24]) (.alt (.s (.store 6) [.t 4, .t 25]) .done .stop)) .stop) (.alt (.o 24 (.bsl 1) []) (.alt (.o 23 (.call 146 []) [.t 22]) (.take (.o 25 (.build bz [(0, 3), (3, 1), (4, 1), (5, 1)]) [.t 18, .t 21, .t 23, .t 24]) (.alt (.s (.store 6) [.t 4, .t 25]) .done .stop)) .stop) .stop)) (.alt (.o 24 (.bsl 1) []) DI .stop)
abbrev DJ : Plan := .alt (.o 17 (.app 1 1 true) [.t 14, .t 16]) (.take (.o 18 (.build rz [(0, 1), (1, 1), (2, 1)]) [.t 11, .t 13, .t 17]) DI) .stop
abbrev Ij : Plan := .alt (.o 17 (.app 1 1 true) [.t 14, .t 16]) (.take (.o 18 (.build rz [(0, 1), (1, 1), (2, 1)]) [.t 11, .t 13, .t 17]) (.alt (.o 19 (.bsl 1) []) DI .stop)) (.alt (.o 19 (.bsl 1) []) DJ .stop)
abbrev Ik : Plan := .alt (.o 17 (.app 1 1 true) [.t 14, .t 16]) (.take (.o 18 (.build rz [(0, 1), (1, 1), (2, 1)]) [.t 11, .t 13, .t 17]) Ii) (.alt (.o 24 (.bsl 1) []) DJ .stop)
def Lm : BCode := (.early [.f 10 0 2, .l 11 10, .f 12 1 2, .l 13 12, .f 15 2 2, .l 16 15, .m 20 1, .la 22 3 2] (.alt (.o 14 (.bsl 1) []) (.alt (.o 17 (.app 1 1 true) [.t 14, .t 16]) (.take (.o 18 (.build rz [(0, 1), (1, 1), (2, 1)]) [.t 11, .t 13, .t 17]) (.alt (.o 19 (.bsl 1) []) Ii (.alt (.o 24 (.bsl 1) []) (.alt (.o 19 (.bsl 1) []) DI .stop) .stop))) (.alt (.o 19 (.bsl 1) []) Ik (.alt (.o 24 (.bsl 1) []) Ij .stop))) (.alt (.o 19 (.bsl 1) []) (.alt (.o 14 (.bsl 1) []) Ik (.alt (.o 24 (.bsl 1) []) (.alt (.o 14 (.bsl 1) []) DJ .stop) .stop)) (.alt (.o 24 (.bsl 1) []) (.alt (.o 14 (.bsl 1) []) Ij (.alt (.o 19 (.bsl 1) []) (.alt (.o 14 (.bsl 1) []) DJ .stop) .stop)) .stop))))
def OR : BCode := (.seq (.base (.reg [.o 2 .box [.t 0], .o 4 (.alloc bz) []])) (.seq (.base (.seq (.reg [.la 5 3 2, .m 6 1, .o 7 (.call 121 []) [.t 5, .t 6], .o 8 (.un .not) [.t 7]]) (.cond (.t 8) (.seq (.reg [.o 9 (.build bz []) [], .s (.store 6) [.t 4, .t 9]]) .ret) .skip))) (.seq (.frz 2 Lm) (.base .ret))))
theorem VT : iv Tryz.prog OQ 26 [(RV.c 4 true 6)] OR := ⟨Tryz.f119, _, Tryz.func119, rfl, by kernel_rfl, by kernel_rfl, by kernel_rfl, by kernel_rfl⟩
theorem Oy (xs : List Bool) (hx : xs.length < 2 ^ 40) : SoundAt Tryz.prog FJ [.sl 1 1 (AC xs)] (.os 1 (AC xs)) [.bot] := by
 refine AE (md := md0) (ms := [false]) Kl (by simp) ?_
 simp [FK]
 refine ⟨fun h => by omega, fun h => ?_⟩
 subst h
 simp
theorem Qf (xs : List Bool) : SoundAt Tryz.prog Fj [.os 1 (AC xs)] (.os 1 (AC xs)) [.bot] := by
 refine AE (md := md0) (ms := [false]) LF (by simp) ?_
 simp [Fk]
theorem RY (xs : List Bool) (hx : xs.length < 2 ^ 40) : SoundAt Tryz.prog Kj [.sl 1 1 (AC xs)] (.os 1 (AC xs)) [.bot] := by
 refine AE (md := md0) (ms := [false]) RW (by simp) ?_
 simp [Kk]
 refine AA (Oy xs hx) ?_
 simp
 refine AA (Qf xs) ?_
 simp
def jS (W T : Int) (cs : List Bool) (ds : List Int) : AV := if (A0 W T cs && Cf cs ds) = true then bkO W T cs ds (BO cs) [] else bkO 0 0 [] [] [] []
set_option maxHeartbeats 4000000 in
theorem OS (W T : Int) (cs : List Bool) (ds : List Int) (hb : cs.length < 2 ^ 40) (hd : ds.length < 2 ^ 40) :
  SoundAt Tryz.prog OQ [.agg [.v (.int .i64 W), .v (.int .i64 T), .sl 1 1 (AC cs)], .sl 1 1 (AB ds)] (jS W T cs ds) [.bot, .bot] := by
 refine Xz (md := md0) (ms := [false, false]) VT (by simp) ?_
 simp [OR]
 refine AA (CO W T cs ds hb hd) ?_
 cases hv : (A0 W T cs && Cf cs ds) with
 | false => simp [jS, hv]
 | true =>
 have hr : A0 W T cs = true := by simp only [Bool.and_eq_true] at hv; exact hv.1
 simp [jS, hv]
 refine X0 rfl rfl rfl ?_
 have one := IY W T cs hb
 rw [if_pos hr] at one
 simp [Lm]
 (repeat' first | assumption | omega | apply And.intro) <;>
 ·refine AA one ?_
  simp
theorem SY (n : Nat) (k : Int) (h0 : 0 ≤ k) (h1 : k < 2 ^ 40) (hb : n < 2 ^ 40) :
  SoundAt Tryz.prog Lk [.sl 1 1 (AC (Dz n k)), .v (.int .i64 k)] (.v (.int .i64 (k + n))) [.bot, .bot] := by
 refine AE (md := md0) (ms := [false, false]) SX (by simp) ?_
 simp [Ll]
 refine AF (fun m E H => ∃ i : Nat, m = n - i ∧ i ≤ n ∧ H = [] ∧ E = [(0, .sl 1 1 (AC (Dz n k))), (1, .v (.int .i64 (k + i))), (5, .v (.int .i64 i))]) n ⟨0, by simp⟩ ?_
 rintro J hJ m E H ⟨i, rfl, hi, rfl, rfl⟩
 simp [Ih, HV]
 refine ⟨fun h => ?_, fun h => ?_⟩
 ·have e : atb (Dz n k) i = ((k + i) % 3 == 0) := by simp [atb, Dz, h]
  have hl := HV n k
  simp [e, h]
  exact ⟨by omega, by omega, by omega, _, by omega, hJ _ _ _ ⟨i + 1, rfl, h, rfl, by simp; omega⟩⟩
 ·have : i = n := by omega
  subst this
  simp
theorem RZ (W T : Int) (n : Nat) (k : Int) (h0 : 0 ≤ k) (h1 : k < 2 ^ 40) (hb : n < 2 ^ 40) :
  SoundAt Tryz.prog Km [.agg [.v (.int .i64 W), .v (.int .i64 T), .sl 1 1 (AC (Dz n k))], .v (.int .i64 k)] (.v (.int .i64 (k + n))) [.bot, .bot] := by
 refine AE (md := md0) (ms := [false, false]) RX (by simp) ?_
 simp [Kn]
 refine AA (SY n k h0 h1 hb) ?_
 have hn : ¬ (k + (n : Int) < 0) := by omega
 simp [hn]
def mkC (k : Int) (cs : List Bool) : List Bool := Dz cs.length k
def mkD (k : Int) (cs : List Bool) (ds : List Int) : List Int := A9 ds.length (k + cs.length)
def mkL (k : Int) (cs : List Bool) (ds ls : List Int) : List Int := A9 ls.length (k + cs.length + ds.length)
def mkP (k : Int) (cs : List Bool) (ds ls : List Int) (ps : List (List Int)) : List (List Int) := BM (k + cs.length + ds.length + ls.length) ps
def ZM (k : Int) (cs : List Bool) (ds ls : List Int) (ps : List (List Int)) : Int := k + cs.length + ds.length + ls.length + EM ps
@[simp] theorem kH (k : Int) (cs : List Bool) : (mkC k cs).length = cs.length := by simp [mkC]
@[simp] theorem kI (k : Int) (cs : List Bool) (ds : List Int) : (mkD k cs ds).length = ds.length := by simp [mkD]
@[simp] theorem kJ (k : Int) (cs : List Bool) (ds ls : List Int) : (mkL k cs ds ls).length = ls.length := by simp [mkL]
@[simp] theorem kK (k : Int) (cs : List Bool) (ds ls : List Int) (ps : List (List Int)) : (mkP k cs ds ls ps).length = ps.length := by simp [mkP]
@[simp] theorem mt (k : Int) (cs : List Bool) : (AC (mkC k cs)).take cs.length = AC (mkC k cs) := List.take_of_length_le (by simp)
@[simp] theorem mu (k : Int) (cs : List Bool) (ds : List Int) : (AB (mkD k cs ds)).take ds.length = AB (mkD k cs ds) := List.take_of_length_le (by simp)
@[simp] theorem mw (k : Int) (cs : List Bool) (ds ls : List Int) : (AB (mkL k cs ds ls)).take ls.length = AB (mkL k cs ds ls) := List.take_of_length_le (by simp)
@[simp] theorem my (k : Int) (cs : List Bool) (ds ls : List Int) (ps : List (List Int)) : (oss (mkP k cs ds ls ps)).take ps.length = oss (mkP k cs ds ls ps) := List.take_of_length_le (by simp)
@[simp] theorem nk (k : Int) (cs : List Bool) (ds ls : List Int) : mkP k cs ds ls [] = [] := (rfl)
theorem M4 (W T : Int) (cs : List Bool) (ds ls : List Int) (ps : List (List Int)) (k : Int) (h0 : 0 ≤ k) (h1 : k < 2 ^ 21) (hc : cs.length < 2 ^ 21) (hd : ds.length < 2 ^ 21) (hl : ls.length < 2 ^ 21) (hs : EM ps < 2 ^ 50) (hb : ps.length < 2 ^ 40) (hp : ∀ p ∈ ps, p.length < 2 ^ 40) :
  SoundAt Tryz.prog M2 [bkO W T cs ds ls ps, .v (.int .i64 k)] (.v (.int .i64 (ZM k cs ds ls ps))) [bkO W T (mkC k cs) (mkD k cs ds) (mkL k cs ds ls) (mkP k cs ds ls ps), .bot] := by
 refine AE (md := md0) (ms := [true, false]) UJ (by simp) ?_
 simp [M3]
 refine AA (Q8 W T cs k (by omega) (by omega) (by omega)) ?_
 simp
 refine AA (MP ds (k + cs.length) (by omega) (by omega) (by omega)) ?_
 simp
 refine AA (MP ls (k + cs.length + ds.length) (by omega) (by omega) (by omega)) ?_
 simp
 refine AA (SV ps (k + cs.length + ds.length + ls.length) (by omega) (by omega) hb hp) ?_
 simp [ZM, mkC, mkD, mkL, mkP]
theorem UK (W T : Int) (cs : List Bool) (ds ls : List Int) (ps : List (List Int)) (k : Int) (h0 : 0 ≤ k) (h1 : k < 2 ^ 21) (hc : cs.length < 2 ^ 21) (hd : ds.length < 2 ^ 21) (hl : ls.length < 2 ^ 21) (hs : EM ps < 2 ^ 50) (hb : ps.length < 2 ^ 40) (hp : ∀ p ∈ ps, p.length < 2 ^ 40) :
  SoundAt Tryz.prog M0 [bkA W T (mkC k cs) (mkD k cs ds) (mkL k cs ds ls) (mkP k cs ds ls ps), .v (.int .i64 k)] (.v (.int .i64 (ZM k cs ds ls ps))) [.bot, .bot] := by
 refine AE (md := md0) (ms := [false, false]) UI (by simp) ?_
 simp [M1]
 refine AA (RZ W T cs.length k (by omega) (by omega) (by omega)) ?_
 have h2 : ¬ (k + (cs.length : Int) < 0) := by omega
 simp [h2, mkC]
 refine AA (MQ ds.length (k + cs.length) (by omega) (by omega) (by omega)) ?_
 have h3 : ¬ (k + (cs.length : Int) + ds.length < 0) := by omega
 simp [h3, mkD]
 refine AA (MQ ls.length (k + cs.length + ds.length) (by omega) (by omega) (by omega)) ?_
 have h4 : ¬ (k + (cs.length : Int) + ds.length + ls.length < 0) := by omega
 simp [h4, mkL]
 refine AA (SW ps (k + cs.length + ds.length + ls.length) (by omega) (by omega) hb hp) ?_
 have h5 : ¬ (k + (cs.length : Int) + ds.length + ls.length + EM ps < 0) := by omega
 simp [h5, mkP, ZM]
theorem UL (W T : Int) (cs : List Bool) (ls : List Int) (c : Int) (hr : A0 W T cs = true) (hy : AO W T cs ls = true) :
  SoundAt Tryz.prog Gg [.agg [.v (.int .i64 W), .v (.int .i64 T), .sl 1 1 (AC cs)], .sl 1 1 (AB ls), .v (.int .i64 c)]
   (.tup [.os 1 (AB (SR W T cs ls c)), .v (.bool (Lj W T cs ls c))]) [.bot, .bot, .bot] := by
 have hl := Ao hy
 have h36 := AZ hr
 by_cases hin : 0 ≤ c ∧ c < ls.length
 ·have := VR W T cs ls c.toNat hr hy (by omega)
  rw [show ((c.toNat : Nat) : Int) = c by omega] at this
  by_cases hz : ati ls c = 0
  ·have e : Ed ls c = false := by simp [Ed, hz]
   rw [if_pos hz] at this
   simpa [SR, Lj, hr, hy, e] using this
  ·have e : Ed ls c = true := by simp [Ed, hz, hin]
   rw [if_neg hz] at this
   simpa [SR, Lj, hr, hy, e] using this
 ·have e : Ed ls c = false := by simp [Ed]; omega
  refine AE (md := md5) (ms := [false, false, false]) OI (by simp) ?_
  simp [J4, SR, Lj, hr, hy, e]
  refine AA (BV W T cs ls (by omega) (by omega)) ?_
  simp [hr, hy]
  refine ⟨by omega, by omega, ?_⟩
  refine AA (EL (x := c) (lo := 0) (hi := (ls.length : Int) - 1) (by omega)) ?_
  simp
def HB (W T : Int) (cs : List Bool) (ds ls : List Int) (kind spot way : Int) : List Int :=
 if kind = 0 then CB W T cs ls spot way else if kind = 1 then (if Ed ls spot = true then K9 W T ls spot else ls) else if kind = 2 then HA W T ls spot else if kind = 3 then BA W T cs ds ls else []
def Ra (W T : Int) (cs : List Bool) (ds ls : List Int) (kind spot way : Int) : Bool :=
 if kind = 0 then BU W T cs ls spot way else if kind = 1 then Ed ls spot else if kind = 2 then Fv W T ls spot else if kind = 3 then decide (BA W T cs ds ls ≠ ls) else false
def doI (W T : Int) (cs : List Bool) (ds ls : List Int) (ps : List (List Int)) (kind spot way : Int) : Bool × List Int × List (List Int) :=
 KV (XH (kind, spot, way)) kind ls ps (HB W T cs ds ls kind spot way) (Ra W T cs ds ls kind spot way && Af W T cs ds (HB W T cs ds ls kind spot way))
theorem Ln (W T : Int) (cs : List Bool) (ds ls : List Int) : (BA W T cs ds ls).length = ls.length := by unfold BA; rw [LT]
theorem Ry (W T : Int) (cs : List Bool) (ds ls : List Int) (kind spot way : Int) : (HB W T cs ds ls kind spot way).length ≤ ls.length := by
 unfold HB
 split
 ·rw [VJ]; exact Nat.le_refl _
 split
 ·split
  ·rw [Ms]; exact Nat.le_refl _
  ·exact Nat.le_refl _
 split
 ·rw [YK]; exact Nat.le_refl _
 split
 ·rw [Ln]; exact Nat.le_refl _
 ·simp
theorem Ad {W T : Int} {cs : List Bool} {ds ls : List Int} {ps : List (List Int)} (h : Au W T cs ds ls ps = true) :
  Af W T cs ds ls = true ∧ ps.length ≤ 20 ∧ ∀ p ∈ ps, Af W T cs ds p = true := by
 simp only [Au, VE, Bool.and_eq_true, decide_eq_true_eq, Cl] at h
 refine ⟨h.1.1, h.1.2, fun p hp => ?_⟩
 obtain ⟨i, hi, rfl⟩ := List.mem_iff_getElem.1 hp
 have := h.2 i hi
 rwa [D7 hi] at this
theorem dS {W T : Int} {cs : List Bool} {ds ls : List Int} {ps : List (List Int)} (h1 : Af W T cs ds ls = true) (h2 : ps.length ≤ 20) (h3 : ∀ p ∈ ps, Af W T cs ds p = true) : Au W T cs ds ls ps = true := by
 simp only [Au, VE, Bool.and_eq_true, decide_eq_true_eq, Cl]
 refine ⟨⟨h1, h2⟩, fun i hi => ?_⟩
 rw [D7 hi]
 exact h3 _ (List.getElem_mem hi)
theorem Dq {W T : Int} {cs : List Bool} {ds ls : List Int} (h : Af W T cs ds ls = true) : cs.length ≤ 36 ∧ ds.length = cs.length ∧ ls.length = cs.length := by
 obtain ⟨hr, hd, hy, _⟩ := AR h
 have hd2 := hd
 simp only [Cf, Bool.and_eq_true, decide_eq_true_eq] at hd2
 exact ⟨AZ hr, hd2.1, Ao hy⟩
theorem NY {k s w : Int} (h : XH (k, s, w) = true) : k = 0 ∨ k = 1 ∨ k = 2 ∨ k = 3 ∨ k = 4 := by
 unfold XH at h
 simp only at h
 split at h
 ·omega
 split at h
 ·omega
 split at h
 ·omega
 ·cases h
theorem bF {ls q : List Int} {qs : List (List Int)} {n : List Int} {b : Bool} : KV true 4 ls (qs ++ [q]) n b = (true, q, qs) := by simp [KV]
theorem bG {ls : List Int} {n : List Int} {b : Bool} : KV true 4 ls [] n b = (false, ls, []) := by simp [KV]
theorem Qg (W T : Int) (cs : List Bool) (ds ls : List Int) (ps : List (List Int)) (kind spot way : Int)
  (hc : cs.length ≤ 40) (hd : ds.length ≤ 40) (hl : ls.length ≤ 40) (hps : ps.length ≤ 40) (hp : ∀ p ∈ ps, p.length ≤ 40) :
  SoundAt Tryz.prog Ha [bkA W T cs ds ls ps, Nd kind spot way]
   (.tup [if Au W T cs ds ls ps = true then bkO W T cs ds (doI W T cs ds ls ps kind spot way).2.1 (doI W T cs ds ls ps kind spot way).2.2 else bkO 0 0 [] [] [] [], .v (.bool (Au W T cs ds ls ps && (doI W T cs ds ls ps kind spot way).1))]) [.bot, .bot] := by
 have hv := Bm W T cs ds ls ps (by omega) (by omega) (by omega) (by omega) (fun p h => by have := hp p h; omega)
 cases ok : Au W T cs ds ls ps with
 | false =>
   rw [ok] at hv
   refine AE (md := md5) (ms := [false, false]) QX (by simp) ?_
   simp [Hb]
   refine AA hv ?_
   simp
 | true =>
 rw [ok] at hv
 obtain ⟨hf, h20, hpf⟩ := Ad ok
 obtain ⟨hr, hdg, hy, ho⟩ := AR hf
 obtain ⟨l36, ld, ll⟩ := Dq hf
 have hnl := Ry W T cs ds ls kind spot way
 have hnew := OS W T cs ds (by omega) (by omega)
 have enew : jS W T cs ds = bkO W T cs ds (BO cs) [] := by simp [jS, hr, hdg]
 rw [enew] at hnew
 have hcopy := ON OO W T cs ds ls (BO cs) ps hc hd hl (by omega) hp (by simp [BO]; omega) hnew
 have hnamed := UH (kind, spot, way)
 refine SoundSet.at (SoundSet.mono ?_ (VK QX W T cs ds ls ps kind spot way hc hd hl h20 hp true (XH (kind, spot, way)) (HB W T cs ds ls kind spot way) (Ra W T cs ds ls kind spot way)
  (if A0 W T cs && AO W T cs (HB W T cs ds ls kind spot way) then (Iz (HB W T cs ds ls kind spot way) : Int) else -1) (if A0 W T cs && AO W T cs ls then (Iz ls : Int) else -1) hv (fun _ => hcopy) hnamed
  ?_ ?_ ?_ ?_ (IR W T cs _ (by omega) (by omega)) (IR W T cs ls (by omega) (by omega)) ?_ (by omega)
  (fun r ups => r = .tup [bkO W T cs ds (doI W T cs ds ls ps kind spot way).2.1 (doI W T cs ds ls ps kind spot way).2.2, .v (.bool (doI W T cs ds ls ps kind spot way).1)] ∧ ups = [.bot, .bot]) ?_ ?_ ?_ ?_ ?_ ?_))
 ·rintro r ups ⟨rfl, rfl⟩
  exact ⟨by simp, rfl⟩
 ·rintro _ rfl
  have := HY W T cs ls spot way hr hy
  simpa [HB, Ra] using this
 ·rintro _ rfl
  have := UL W T cs ls spot hr hy
  simpa [HB, Ra, SR, Lj, hr, hy] using this
 ·rintro _ rfl
  have := VQ W T cs ls spot (by omega) (by omega)
  simpa [HB, Ra, jQ, lq, hr, hy] using this
 ·rintro _ rfl
  have := Tz W T cs ds ls (by omega) (by omega) (by omega)
  simpa [HB, Ra, P2, hf] using this
 ·rintro _ rfl
  have h1 := XG hf
  have h2 := (OE hf).1
  obtain ⟨_, _, hy2, _⟩ := AR h2
  simp only [Ra, HB]
  simp [hr, hy, hy2]
  by_cases hq : BA W T cs ds ls = ls
  ·have : ¬ Iz ls < Iz (BA W T cs ds ls) := fun h => h1.1 h hq
   simp [hq]
  ·simp [hq, h1.2 hq]
 ·intro h; cases h
 ·intro _ hn
  have e : doI W T cs ds ls ps kind spot way = (false, ls, ps) := by simp [doI, KV, hn]
  rw [e]; exact ⟨rfl, rfl⟩
 ·intro _ hn hk he
  have hk4 : kind = 4 := by have := NY hn; omega
  subst hk4 he
  have e : doI W T cs ds ls [] 4 spot way = (false, ls, []) := by unfold doI; rw [hn, bG]
  rw [e]; exact ⟨rfl, rfl⟩
 ·intro _ hn hk q qs he
  have hk4 : kind = 4 := by have := NY hn; omega
  subst hk4 he
  have e : doI W T cs ds ls (qs ++ [q]) 4 spot way = (true, q, qs) := by unfold doI; rw [hn, bF]
  rw [e]; exact ⟨rfl, rfl⟩
 ·intro _ hn hk hb
  have e : doI W T cs ds ls ps kind spot way = (false, ls, ps) := by unfold doI; rw [hb]; simp [KV]; omega
  rw [e]; exact ⟨rfl, rfl⟩
 ·intro _ hn hk hb
  have e : doI W T cs ds ls ps kind spot way = (true, HB W T cs ds ls kind spot way, Fb ls ps) := by unfold doI; rw [hb, hn]; simp [KV]; omega
  rw [e]; exact ⟨rfl, rfl⟩
@[simp] abbrev SZ : Nat := 167
@[simp] abbrev VU : Nat := 120
@[simp] abbrev VV : Nat := 57
@[simp] abbrev Qh : Nat := 17
@[simp] abbrev UM : Nat := 58
@[simp] def md8 (f : Nat) : List Bool := if f = SZ then [true, false, false] else if f = VU ∨ f = VV ∨ f = UM then [true, false] else if f = 999999 ∨ f = 999999 ∨ f = 999999 ∨ f = 999999 ∨ f = Qh ∨ f = 999999 then [true] else md5 f
theorem fX {W T : Int} {cs : List Bool} {ds ls : List Int} {ps : List (List Int)} (k s w : Int) (h : Au W T cs ds ls ps = true) : Au W T cs ds (doI W T cs ds ls ps k s w).2.1 (doI W T cs ds ls ps k s w).2.2 = true := by
 obtain ⟨h1, h2, h3⟩ := Ad h
 unfold doI KV
 split
 ·exact h
 split
 ·rcases List.eq_nil_or_concat ps with rfl | ⟨qs, q, hq⟩
  ·exact h
  ·rw [List.concat_eq_append] at hq
   subst hq
   simp only [List.getLast?_append, List.getLast?_singleton, Option.some_or, List.dropLast_concat]
   simp at h2
   exact dS (h3 q (by simp)) (by omega) (fun p hp => h3 p (by simp [hp]))
 split
 ·rename_i hb
  simp only [Bool.and_eq_true] at hb
  refine dS hb.2 ?_ ?_
  ·simp [Fb]; omega
  ·intro p hp
   have := List.mem_of_mem_drop hp
   simp at this
   rcases this with h4 | rfl
   ·exact h3 p h4
   ·exact h1
 ·exact h
abbrev jT (i : Nat) (W T : Int) (cs : List Bool) (ds ls : List Int) (ps : List (List Int)) : List AV := [.v (.int .i64 W), .v (.int .i64 T), .ls 1 i 0 cs.length, .ls 1 (i + 1) 0 ds.length, .ls 1 (i + 2) 0 ls.length, .ls 1 (i + 3) 0 ps.length]
theorem VW (xs ys : List Int) (ha : xs.length < 2 ^ 40) :
  SoundAt Tryz.prog F7 [.sl 1 1 (AB xs), .sl 1 1 (AB ys)] (.v (.bool (decide (xs = ys)))) [.bot, .bot] := by
 refine AE (md := md0) (ms := [false, false]) L4 (by simp) ?_
 simp [F8]
 refine ⟨fun h => ?_, fun hl => ?_⟩
 ·intro e; subst e; exact h rfl
 refine AF (fun m E H => ∃ i : Nat, m = xs.length - i ∧ i ≤ xs.length ∧ xs.take i = ys.take i ∧ H = [] ∧ E = [(0, .sl 1 1 (AB xs)), (1, .sl 1 1 (AB ys)), (12, .v (.int .i64 xs.length)), (13, .v (.int .i64 i))]) xs.length ⟨0, by simp⟩ ?_
 rintro J hJ m E H ⟨i, rfl, hi, he, rfl, rfl⟩
 by_cases h : i < xs.length
 case neg =>
  have h1 : i = xs.length := by omega
  subst h1
  have e : xs = ys := by
   rw [List.take_length] at he
   rw [he]; exact List.take_of_length_le (by omega)
  simp [BZ, e]
 have h2 : i < ys.length := by omega
 have key : (ati xs i = ati ys i) → xs.take (i + 1) = ys.take (i + 1) := by
  intro e
  rw [List.take_succ_eq_append_getElem h, List.take_succ_eq_append_getElem (by omega), he]
  simp [ati, h, h2] at e
  rw [e]
 have key2 : ¬ (ati xs i = ati ys i) → ¬ xs = ys := fun e e2 => e (by rw [e2])
 by_cases e : ati xs i = ati ys i
 ·simp [BZ, h, h2, e]
  exact ⟨by omega, _, by omega, hJ _ _ _ ⟨i + 1, rfl, h, key e, rfl, rfl⟩⟩
 ·simp [BZ, h, h2, e, key2 e]
abbrev cpH (W T : Int) (cs : List Bool) (ds ls : List Int) (qs : List (List Int)) : AH :=
 [some (.box [.v (.int .i64 0), .v (.int .i64 0), .os 1 [], .os 1 [], .os 1 [], .os 1 []]), some (.box (jT 2 W T cs ds ls qs)),
  some (.arr 1 (AC cs)), some (.arr 1 (AB ds)), some (.arr 1 (AB ls)), some (.arr 1 (oss qs))]
def cpP (ps : List (List Int)) (i : Nat) : List (List Int) := ps.take i ++ List.replicate (ps.length - i) []
theorem Rb (ps : List (List Int)) {i : Nat} (h : i ≤ ps.length) : (cpP ps i).length = ps.length := by simp [cpP]; omega
theorem jU (ps : List (List Int)) {i : Nat} (h : i < ps.length) : (oss (cpP ps i)).set i (.os 1 (AB (pti ps i))) = oss (cpP ps (i + 1)) := by
 unfold oss
 rw [← List.map_set]
 congr 1
 unfold cpP
 rw [List.set_append_right _ _ (by simp; omega), show i - (ps.take i).length = 0 by simp; omega, show ps.length - i = (ps.length - (i + 1)) + 1 by omega, List.replicate_succ, List.set_cons_zero,
  D7 h]
 have e : ps.take (i + 1) = ps.take i ++ [ps[i]] := List.take_succ_eq_append_getElem h
 rw [e, List.append_assoc]; rfl
theorem nl (W T : Int) (cs : List Bool) (ds ls : List Int) (ps : List (List Int)) (hb : ps.length ≤ 100) (hp : ∀ p ∈ ps, p.length ≤ 100) (Qc : AExit → ES → AH → Prop)
  (hend : ∀ E : ES, get E 2 = .lp 0 0 0 0 → get E 3 = .lp 0 1 0 0 → Qc (.exit 0) E (cpH W T cs ds ls ps)) :
  EI [(29, 1)] [2, 3, 29, 30, 31] (awp Tryz.prog mdo Cb) Qc [(2, .lp 0 0 0 0), (3, .lp 0 1 0 0), (29, .sl 1 1 (sls 1 ps)), (30, .v (.int .i64 ps.length)), (31, .v (.int .i64 0))] (cpH W T cs ds ls (cpP ps 0)) := by
 refine AF (fun m E H => ∃ i : Nat, m = ps.length - i ∧ i ≤ ps.length ∧ E = [(2, .lp 0 0 0 0), (3, .lp 0 1 0 0), (29, .sl 1 1 (sls 1 ps)), (30, .v (.int .i64 ps.length)), (31, .v (.int .i64 i))] ∧ H = cpH W T cs ds ls (cpP ps i)) ps.length ⟨0, by simp⟩ ?_
 rintro J hJ m E H ⟨i, rfl, hi, rfl, rfl⟩
 have hl := Rb ps hi
 by_cases h : i < ps.length
 case neg =>
  have h1 : i = ps.length := by omega
  subst h1
  have e : cpP ps ps.length = ps := by simp [cpP]
  simp [Cb]
  rw [e]
  exact hend _ rfl rfl
 have hpi : (pti ps i).length ≤ 100 := by rw [D7 h]; exact hp _ (List.getElem_mem h)
 have hset := jU ps h
 have hl2 := Rb ps (show i + 1 ≤ ps.length by omega)
 have nx := hJ (ps.length - (i + 1)) _ _ ⟨i + 1, rfl, h, rfl, rfl⟩
 simp only [cpH, jT, hl2, ← hset, Int.natCast_add, Int.natCast_one] at nx
 simp [Cb, h]
 (repeat' first | omega | apply And.intro) <;>
 ·refine AA (Ag (pti ps i) (by omega)) ?_
  simp [h, hl]
  exact ⟨by omega, _, by omega, nx⟩
set_option maxHeartbeats 8000000 in
theorem Qi (W T : Int) (cs : List Bool) (ds ls : List Int) (ps : List (List Int)) (hc : cs.length ≤ 100) (hd : ds.length ≤ 100) (hl : ls.length ≤ 100) (hb : ps.length ≤ 100) (hp : ∀ p ∈ ps, p.length ≤ 100) :
  SoundAt Tryz.prog Jj [bkA W T cs ds ls ps] (bkO W T cs ds ls ps) [.bot] := by
 refine Xz (md := mdo) (ms := [false]) Qa (by simp) ?_
 have t1 : (AB ds).take ds.length = AB ds := AD ds
 have t2 : (AB ls).take ls.length = AB ls := AD ls
 have t3 : (oss ps).take ps.length = oss ps := List.take_of_length_le (by simp [oss])
 have e0 : List.replicate ps.length (AV.os 1 []) = oss (cpP ps 0) := by simp [cpP, oss]
 have hl0 : (cpP ps 0).length = ps.length := Rb ps (by omega)
 have lp := nl W T cs ds ls ps hb hp
 simp only [cpH, jT, hl0, ← e0] at lp
 simp [HO]
 refine X0 rfl rfl rfl ?_
 simp
 (repeat' first | omega | apply And.intro) <;>
 ·refine AA (RY cs (by omega)) ?_
  simp
  (repeat' first | omega | apply And.intro) <;>
  ·refine AA (Ag ds (by omega)) ?_
   simp
   (repeat' first | omega | apply And.intro) <;>
   ·refine AA (Ag ls (by omega)) ?_
    simp [G3]
    (repeat' first | omega | apply And.intro) <;>
    ·refine lp _ ?_
     intro E e2 e3
     simp [e2, e3, t1, t2, t3]
theorem dT {W T : Int} {cs : List Bool} {ds ls : List Int} {k s w : Int} (hf : Af W T cs ds ls = true) (hk : k = 0 ∨ k = 1 ∨ k = 2 ∨ k = 3) : AO W T cs (HB W T cs ds ls k s w) = true := by
 obtain ⟨hr, hd, hy, ho⟩ := AR hf
 unfold HB
 split
 ·unfold CB
  split
  ·rename_i h; exact Nm hr hy h
  ·exact hy
 split
 ·split
  ·rename_i h
   simp only [Ed, decide_eq_true_eq] at h
   have := dG (k := s.toNat) hr hy (by omega) (by rw [show ((s.toNat : Nat) : Int) = s by omega]; exact h.2.2)
   rw [show ((s.toNat : Nat) : Int) = s by omega] at this
   exact this
  ·exact hy
 split
 ·by_cases hfl : Fv W T ls s = true
  ·exact (dL hr hy hfl).2
  ·have e : HA W T ls s = ls := by simp [HA, hfl]
   rw [e]; exact hy
 split
 ·exact (AR (OE hf).1).2.2.1
 ·omega
theorem OT (W T : Int) (cs : List Bool) (ds ls : List Int) (ps : List (List Int)) (k s w : Int) (h : Au W T cs ds ls ps = true) (hs : s ≤ 9223372036854775807) :
  SoundAt Tryz.prog B5 [OA W T cs ds ls ps, Nd k s w] (.v (.bool (doI W T cs ds ls ps k s w).1)) [OA W T cs ds (doI W T cs ds ls ps k s w).2.1 (doI W T cs ds ls ps k s w).2.2, .bot] := by
 obtain ⟨hf, h20, hpf⟩ := Ad h
 obtain ⟨hr, hdg, hy, ho⟩ := AR hf
 obtain ⟨l36, ld, ll⟩ := Dq hf
 have hnl := Ry W T cs ds ls k s w
 unfold doI
 refine ck VN W T cs ds ls (HB W T cs ds ls k s w) ps k s w (XH (k, s, w)) (Ra W T cs ds ls k s w) (Af W T cs ds (HB W T cs ds ls k s w)) (by omega) (by omega) (by omega) (RU (k, s, w)) ?_ ?_ (fun us h1 h2 => SS us h1 h2)
 ·intro hn hk4
  have hk : k = 0 ∨ k = 1 ∨ k = 2 ∨ k = 3 := by have := NY hn; omega
  have h0 := XF W T cs ls s w (by omega) (by omega)
  have h1 := VI W T cs ls s (by omega) (by omega)
  have h2 := Qb W T cs ls s hr ll hs
  have h3 := L0 W T cs ds ls hf
  have h4 := VW (BA W T cs ds ls) ls (by rw [Ln]; omega)
  have := Wz QY W T cs ds ls _ _ _ _ ps k s w _ _ _ _ h0 h1 h2 h3 h4
  have e : SH k (jO W T cs ls s w) (SR W T cs ls s) (HA W T ls s) (BA W T cs ds ls) (ZJ W T cs ls s w) (Lj W T cs ls s) (Fv W T ls s) (!decide (BA W T cs ds ls = ls)) =
    (HB W T cs ds ls k s w, Ra W T cs ds ls k s w) := by
   rcases hk with rfl | rfl | rfl | rfl
   ·simp [SH, HB, Ra, jO, ZJ, hr, hy]
   ·simp [SH, HB, Ra, SR, Lj, hr, hy]
   ·simp [SH, HB, Ra]
   ·simp [SH, HB, Ra]
  rw [e] at this
  exact this
 ·intro hn hk4
  have hk : k = 0 ∨ k = 1 ∨ k = 2 ∨ k = 3 := by have := NY hn; omega
  have hy2 := dT (s := s) (w := w) hf hk
  have hok : okB W T cs ds (HB W T cs ds ls k s w) = true := by simp [okB, hr, hdg, hy2]
  have e : Af W T cs ds (HB W T cs ds ls k s w) = KD (B3 W T ds (HB W T cs ds ls k s w)) := by simp [Af, hok]
  rw [e]
  exact De W T cs ds _ hok
end Go.Proofs.Dev
