/- Contracts of the functions of the program over slots and rows, each proved against the program itself; no condition beyond those that each theorem names. -/
import Derived.Test.YtfkmfobbgoflgaaGreatDoorAU
import Derived.Test.YtfkmfobbgoflgaaGreatDoorAI
import Derived.Test.YtfkmfobbgoflgaaGreatDoorProg
import Derived.Test.YtfkmfobbgoflgaaGreatDoorAR
import Derived.Test.YtfkmfobbgoflgaaGreatDoorAT
set_option linter.unusedSimpArgs false
set_option linter.unusedVariables false
set_option maxRecDepth 100000
namespace Go.Proofs.Dev
@[simp] abbrev OZ : Nat := 119
abbrev DI : Plan := .alt (.o 21 (.app 1 8 true) [.t 19, .t 20]) (.alt (.o 23 (.call 146 []) [.t 22]) (.take (.o 25 (.build bz [(0, 3), (3, 1), (4, 1), (5, 1)]) [.t 18, .t 21, .t 23, .t 24]) (.alt (.s (.store 6) [.t 4, .t 25]) .done .stop)) .stop) .stop
abbrev Iq : Plan := .alt (.o 21 (.app 1 8 true) [.t 19, .t 20]) (.alt (.o 23 (.call 146 []) [.t 22]) (.alt (.o 24 (.bsl 1) []) (.take (.o 25 (.build bz [(0, 3), (3, 1), (4, 1), (5, 1)]) [.t 18, .t 21, .t 23, .t 24]) (.alt (.s (.store 6) [.t 4, .t 25]) .done .stop)) .stop) (.alt (.o 24 (.bsl 1) []) (.alt (.o 23 (.call 146 []) [.t 22]) (.take (.o 25 (.build bz [(0, 3), (3, 1), (4, 1), (5, 1)]) [.t 18, .t 21, .t 23, .t 24]) (.alt (.s (.store 6) [.t 4, .t 25]) .done .stop)) .stop) .stop)) (.alt (.o 24 (.bsl 1) []) DI .stop)
abbrev DJ : Plan := .alt (.o 17 (.app 1 1 true) [.t 14, .t 16]) (.take (.o 18 (.build rz [(0, 1), (1, 1), (2, 1)]) [.t 11, .t 13, .t 17]) DI) .stop
abbrev Ir : Plan := .alt (.o 17 (.app 1 1 true) [.t 14, .t 16]) (.take (.o 18 (.build rz [(0, 1), (1, 1), (2, 1)]) [.t 11, .t 13, .t 17]) (.alt (.o 19 (.bsl 1) []) DI .stop)) (.alt (.o 19 (.bsl 1) []) DJ .stop)
abbrev It : Plan := .alt (.o 17 (.app 1 1 true) [.t 14, .t 16]) (.take (.o 18 (.build rz [(0, 1), (1, 1), (2, 1)]) [.t 11, .t 13, .t 17]) Iq) (.alt (.o 24 (.bsl 1) []) DJ .stop)
def MB : BCode := (.early [.f 10 0 2, .l 11 10, .f 12 1 2, .l 13 12, .f 15 2 2, .l 16 15, .m 20 1, .la 22 3 2] (.alt (.o 14 (.bsl 1) []) (.alt (.o 17 (.app 1 1 true) [.t 14, .t 16]) (.take (.o 18 (.build rz [(0, 1), (1, 1), (2, 1)]) [.t 11, .t 13, .t 17]) (.alt (.o 19 (.bsl 1) []) Iq (.alt (.o 24 (.bsl 1) []) (.alt (.o 19 (.bsl 1) []) DI .stop) .stop))) (.alt (.o 19 (.bsl 1) []) It (.alt (.o 24 (.bsl 1) []) Ir .stop))) (.alt (.o 19 (.bsl 1) []) (.alt (.o 14 (.bsl 1) []) It (.alt (.o 24 (.bsl 1) []) (.alt (.o 14 (.bsl 1) []) DJ .stop) .stop)) (.alt (.o 24 (.bsl 1) []) (.alt (.o 14 (.bsl 1) []) Ir (.alt (.o 19 (.bsl 1) []) (.alt (.o 14 (.bsl 1) []) DJ .stop) .stop)) .stop))))
def Oa : BCode := (.seq (.base (.reg [.o 2 .box [.t 0], .o 4 (.alloc bz) []])) (.seq (.base (.seq (.reg [.la 5 3 2, .m 6 1, .o 7 (.call 121 []) [.t 5, .t 6], .o 8 (.un .not) [.t 7]]) (.cond (.t 8) (.seq (.reg [.o 9 (.build bz []) [], .s (.store 6) [.t 4, .t 9]]) .ret) .skip))) (.seq (.frz 2 MB) (.base .ret))))
theorem VT : gM Tryz.prog OZ 26 [(RV.c 4 true 6)] Oa := ⟨Tryz.f119, _, Tryz.func119, rfl, by kernel_rfl, by kernel_rfl, by kernel_rfl, by kernel_rfl⟩
theorem O8 (xs : List Bool) (hx : xs.length < 2 ^ 40) : SoundAt Tryz.prog FN [.sl 1 1 (AD xs)] (.os 1 (AD xs)) [.bot] := by
 refine AJ (md := md0) (ms := [false]) K3 (by simp) ?_
 simp [FO]
 refine ⟨fun h => by omega, fun h => ?_⟩
 subst h
 simp
theorem Qi (xs : List Bool) : SoundAt Tryz.prog Fw [.os 1 (AD xs)] (.os 1 (AD xs)) [.bot] := by
 refine AJ (md := md0) (ms := [false]) LX (by simp) ?_
 simp [Fx]
theorem RY (xs : List Bool) (hx : xs.length < 2 ^ 40) : SoundAt Tryz.prog K1 [.sl 1 1 (AD xs)] (.os 1 (AD xs)) [.bot] := by
 refine AJ (md := md0) (ms := [false]) RX (by simp) ?_
 simp [K2]
 refine AA (O8 xs hx) ?_
 simp
 refine AA (Qi xs) ?_
 simp
def kf (W T : Int) (cs : List Bool) (ds : List Int) : AV := if (A3 W T cs && DV cs ds) = true then bkO W T cs ds (A5 cs) [] else bkO 0 0 [] [] [] []
set_option maxHeartbeats 4000000 in
theorem Ob (W T : Int) (cs : List Bool) (ds : List Int) (hb : cs.length < 2 ^ 40) (hd : ds.length < 2 ^ 40) :
  SoundAt Tryz.prog OZ [.agg [.v (.int .i64 W), .v (.int .i64 T), .sl 1 1 (AD cs)], .sl 1 1 (AC ds)] (kf W T cs ds) [.bot, .bot] := by
 refine Vv (md := md0) (ms := [false, false]) VT (by simp) ?_
 simp [Oa]
 refine AA (FY W T cs ds hb hd) ?_
 cases hv : (A3 W T cs && DV cs ds) with
 | false => simp [kf, hv]
 | true =>
 have hr : A3 W T cs = true := by simp only [Bool.and_eq_true] at hv; exact hv.1
 simp [kf, hv]
 refine Vw rfl rfl rfl ?_
 have one := Ia W T cs hb
 rw [if_pos hr] at one
 simp [MB]
 (repeat' first | assumption | omega | apply And.intro) <;>
 ·refine AA one ?_
  simp
theorem UM (W T : Int) (cs : List Bool) (ls : List Int) (c : Int) (hr : A3 W T cs = true) (hy : AU W T cs ls = true) :
  SoundAt Tryz.prog Gv [.agg [.v (.int .i64 W), .v (.int .i64 T), .sl 1 1 (AD cs)], .sl 1 1 (AC ls), .v (.int .i64 c)]
   (.tup [.os 1 (AC (SX W T cs ls c)), .v (.bool (L4 W T cs ls c))]) [.bot, .bot, .bot] := by
 have hl := Aj hy
 have h36 := AZ hr
 by_cases hin : 0 ≤ c ∧ c < ls.length
 ·have := VS W T cs ls c.toNat hr hy (by omega)
  rw [show ((c.toNat : Nat) : Int) = c by omega] at this
  by_cases hz : ati ls c = 0
  ·have e : Ei ls c = false := by simp [Ei, hz]
   rw [if_pos hz] at this
   simpa [SX, L4, hr, hy, e] using this
  ·have e : Ei ls c = true := by simp [Ei, hz, hin]
   rw [if_neg hz] at this
   simpa [SX, L4, hr, hy, e] using this
 ·have e : Ei ls c = false := by simp [Ei]; omega
  refine AJ (md := md5) (ms := [false, false, false]) OM (by simp) ?_
  simp [KH, SX, L4, hr, hy, e]
  refine AA (Br W T cs ls (by omega) (by omega)) ?_
  simp [hr, hy]
  refine ⟨by omega, by omega, ?_⟩
  refine AA (EJ (x := c) (lo := 0) (hi := (ls.length : Int) - 1) (by omega)) ?_
  simp
def HY (W T : Int) (cs : List Bool) (ds ls : List Int) (kind spot way : Int) : List Int :=
 if kind = 0 then Av W T cs ls spot way else if kind = 1 then (if Ei ls spot = true then LR W T ls spot else ls) else if kind = 2 then HX W T ls spot else if kind = 3 then A9 W T cs ds ls else []
def RZ (W T : Int) (cs : List Bool) (ds ls : List Int) (kind spot way : Int) : Bool :=
 if kind = 0 then Ap W T cs ls spot way else if kind = 1 then Ei ls spot else if kind = 2 then F8 W T ls spot else if kind = 3 then decide (A9 W T cs ds ls ≠ ls) else false
def doI (W T : Int) (cs : List Bool) (ds ls : List Int) (ps : List (List Int)) (kind spot way : Int) : Bool × List Int × List (List Int) :=
 Ki (XO (kind, spot, way)) kind ls ps (HY W T cs ds ls kind spot way) (RZ W T cs ds ls kind spot way && Ah W T cs ds (HY W T cs ds ls kind spot way))
theorem MC (W T : Int) (cs : List Bool) (ds ls : List Int) : (A9 W T cs ds ls).length = ls.length := by unfold A9; rw [Lk]
theorem R0 (W T : Int) (cs : List Bool) (ds ls : List Int) (kind spot way : Int) : (HY W T cs ds ls kind spot way).length ≤ ls.length := by
 unfold HY
 split
 ·rw [KI]; exact Nat.le_refl _
 split
 ·split
  ·rw [M8]; exact Nat.le_refl _
  ·exact Nat.le_refl _
 split
 ·rw [YN]; exact Nat.le_refl _
 split
 ·rw [MC]; exact Nat.le_refl _
 ·simp
theorem A6 {W T : Int} {cs : List Bool} {ds ls : List Int} {ps : List (List Int)} (h : Bw W T cs ds ls ps = true) :
  Ah W T cs ds ls = true ∧ ps.length ≤ 20 ∧ ∀ p ∈ ps, Ah W T cs ds p = true := by
 simp only [Bw, U6, Bool.and_eq_true, decide_eq_true_eq, CI] at h
 refine ⟨h.1.1, h.1.2, fun p hp => ?_⟩
 obtain ⟨i, hi, rfl⟩ := List.mem_iff_getElem.1 hp
 have := h.2 i hi
 rwa [Mx hi] at this
theorem ZT {W T : Int} {cs : List Bool} {ds ls : List Int} {ps : List (List Int)} (h1 : Ah W T cs ds ls = true) (h2 : ps.length ≤ 20) (h3 : ∀ p ∈ ps, Ah W T cs ds p = true) : Bw W T cs ds ls ps = true := by
 simp only [Bw, U6, Bool.and_eq_true, decide_eq_true_eq, CI]
 refine ⟨⟨h1, h2⟩, fun i hi => ?_⟩
 rw [Mx hi]
 exact h3 _ (List.getElem_mem hi)
theorem CD {W T : Int} {cs : List Bool} {ds ls : List Int} (h : Ah W T cs ds ls = true) : cs.length ≤ 36 ∧ ds.length = cs.length ∧ ls.length = cs.length := by
 obtain ⟨hr, hd, hy, _⟩ := Aw h
 have hd2 := hd
 simp only [DV, Bool.and_eq_true, decide_eq_true_eq] at hd2
 exact ⟨AZ hr, hd2.1, Aj hy⟩
theorem Nu {k s w : Int} (h : XO (k, s, w) = true) : k = 0 ∨ k = 1 ∨ k = 2 ∨ k = 3 ∨ k = 4 := by
 unfold XO at h
 simp only at h
 split at h
 ·omega
 split at h
 ·omega
 split at h
 ·omega
 ·cases h
theorem bZ {ls q : List Int} {qs : List (List Int)} {n : List Int} {b : Bool} : Ki true 4 ls (qs ++ [q]) n b = (true, q, qs) := by simp [Ki]
theorem ba {ls : List Int} {n : List Int} {b : Bool} : Ki true 4 ls [] n b = (false, ls, []) := by simp [Ki]
theorem Qk (W T : Int) (cs : List Bool) (ds ls : List Int) (ps : List (List Int)) (kind spot way : Int)
  (hc : cs.length ≤ 40) (hd : ds.length ≤ 40) (hl : ls.length ≤ 40) (hps : ps.length ≤ 40) (hp : ∀ p ∈ ps, p.length ≤ 40) :
  SoundAt Tryz.prog EO [bkA W T cs ds ls ps, LK kind spot way]
   (.tup [if Bw W T cs ds ls ps = true then bkO W T cs ds (doI W T cs ds ls ps kind spot way).2.1 (doI W T cs ds ls ps kind spot way).2.2 else bkO 0 0 [] [] [] [], .v (.bool (Bw W T cs ds ls ps && (doI W T cs ds ls ps kind spot way).1))]) [.bot, .bot] := by
 have hv := HT W T cs ds ls ps (by omega) (by omega) (by omega) (by omega) (fun p h => by have := hp p h; omega)
 cases ok : Bw W T cs ds ls ps with
 | false =>
   rw [ok] at hv
   refine AJ (md := md5) (ms := [false, false]) Qb (by simp) ?_
   simp [H3]
   refine AA hv ?_
   simp
 | true =>
 rw [ok] at hv
 obtain ⟨hf, h20, hpf⟩ := A6 ok
 obtain ⟨hr, hdg, hy, ho⟩ := Aw hf
 obtain ⟨l36, ld, ll⟩ := CD hf
 have hnl := R0 W T cs ds ls kind spot way
 have hnew := Ob W T cs ds (by omega) (by omega)
 have enew : kf W T cs ds = bkO W T cs ds (A5 cs) [] := by simp [kf, hr, hdg]
 rw [enew] at hnew
 have hcopy := VI VL W T cs ds ls (A5 cs) ps hc hd hl (by omega) hp (by simp [A5]; omega) hnew
 have hnamed := UL (kind, spot, way)
 refine SoundSet.at (SoundSet.mono ?_ (VH Qb W T cs ds ls ps kind spot way hc hd hl h20 hp true (XO (kind, spot, way)) (HY W T cs ds ls kind spot way) (RZ W T cs ds ls kind spot way)
  (if A3 W T cs && AU W T cs (HY W T cs ds ls kind spot way) then (Kl (HY W T cs ds ls kind spot way) : Int) else -1) (if A3 W T cs && AU W T cs ls then (Kl ls : Int) else -1) hv (fun _ => hcopy) hnamed
  ?_ ?_ ?_ ?_ (M1 W T cs _ (by omega) (by omega)) (M1 W T cs ls (by omega) (by omega)) ?_ (by omega)
  (fun r ups => r = .tup [bkO W T cs ds (doI W T cs ds ls ps kind spot way).2.1 (doI W T cs ds ls ps kind spot way).2.2, .v (.bool (doI W T cs ds ls ps kind spot way).1)] ∧ ups = [.bot, .bot]) ?_ ?_ ?_ ?_ ?_ ?_))
 ·rintro r ups ⟨rfl, rfl⟩
  exact ⟨by simp, rfl⟩
 ·rintro _ rfl
  have := C5 W T cs ls spot way hr hy
  simpa [HY, RZ] using this
 ·rintro _ rfl
  have := UM W T cs ls spot hr hy
  simpa [HY, RZ, SX, L4, hr, hy] using this
 ·rintro _ rfl
  have := VQ W T cs ls spot (by omega) (by omega)
  simpa [HY, RZ, ka, iy, hr, hy] using this
 ·rintro _ rfl
  have := Ts W T cs ds ls (by omega) (by omega) (by omega)
  simpa [HY, RZ, QE, hf] using this
 ·rintro _ rfl
  have h1 := XN hf
  have h2 := (OI hf).1
  obtain ⟨_, _, hy2, _⟩ := Aw h2
  simp only [RZ, HY]
  simp [hr, hy, hy2]
  by_cases hq : A9 W T cs ds ls = ls
  ·have : ¬ Kl ls < Kl (A9 W T cs ds ls) := fun h => h1.1 h hq
   simp [hq]
  ·simp [hq, h1.2 hq]
 ·intro h; cases h
 ·intro _ hn
  have e : doI W T cs ds ls ps kind spot way = (false, ls, ps) := by simp [doI, Ki, hn]
  rw [e]; exact ⟨rfl, rfl⟩
 ·intro _ hn hk he
  have hk4 : kind = 4 := by have := Nu hn; omega
  subst hk4 he
  have e : doI W T cs ds ls [] 4 spot way = (false, ls, []) := by unfold doI; rw [hn, ba]
  rw [e]; exact ⟨rfl, rfl⟩
 ·intro _ hn hk q qs he
  have hk4 : kind = 4 := by have := Nu hn; omega
  subst hk4 he
  have e : doI W T cs ds ls (qs ++ [q]) 4 spot way = (true, q, qs) := by unfold doI; rw [hn, bZ]
  rw [e]; exact ⟨rfl, rfl⟩
 ·intro _ hn hk hb
  have e : doI W T cs ds ls ps kind spot way = (false, ls, ps) := by unfold doI; rw [hb]; simp [Ki]; omega
  rw [e]; exact ⟨rfl, rfl⟩
 ·intro _ hn hk hb
  have e : doI W T cs ds ls ps kind spot way = (true, HY W T cs ds ls kind spot way, Fg ls ps) := by unfold doI; rw [hb, hn]; simp [Ki]; omega
  rw [e]; exact ⟨rfl, rfl⟩
@[simp] abbrev HZ : Nat := 167
def MD : ACode := .seq (.reg [.o 4 .box [.t 1], .o 6 .mv [.k 0]]) <| .seq (.reg [.la 8 3 4, .m 9 2, .o 10 (.call 224 []) [.t 8, .t 9], .m 7 10]) <| .seq (.seq (.reg [.m 11 7, .n 12 11, .o 13 (.bin .gtr 0) [.t 12, .k 0], .m 14 13, .mg 15 0 14 true, .g 16 (.call 54 []) [.t 15, .k 3] 14 true, .g 17 (.bin .gtr 0) [.t 16, .k 0] 14 true, .o 18 .pick [.t 14, .t 17, .kb false]]) <| .cond (.t 18) ( .seq (.reg [.m 19 7, .m 20 0, .m 21 7, .n 22 21, .o 23 (.call 54 []) [.t 20, .t 22], .o 24 (.iadr 1) [.t 19, .t 23], .l 25 24, .m 6 25]) <| .ret) ( .skip)) <| .seq (.reg [.m 26 0, .la 27 3 4, .o 28 (.call 225 []) [.t 27], .o 29 (.mnx false) [.t 28, .k 0], .o 30 (.bin .add 0) [.t 29, .k 1], .o 31 (.call 54 []) [.t 26, .t 30], .m 32 0, .o 33 (.call 54 []) [.t 32, .k 20], .o 34 (.bin .quo 0) [.t 33, .k 19], .o 35 (.bin .sub 0) [.t 31, .t 34], .m 6 35]) <| .ret
theorem Sd : cFn Tryz.prog HZ 36 [.t 6] MD := ⟨Tryz.f167, _, Tryz.func167, rfl, by kernel_rfl, by kernel_rfl, by kernel_rfl, by kernel_rfl⟩
@[simp] abbrev KM : Nat := 120
def BQ : ACode := .seq (.seq (.reg [.m 35 7, .o 36 (.bin .lss 0) [.t 35, .k 4], .m 37 36, .fg 38 1 5 37 true, .lg 39 38 37 true, .fg 40 4 3 37 true, .lg 41 40 37 true, .g 42 (.len false) [.t 41] 37 true, .g 43 (.bin .lss 0) [.t 39, .t 42] 37 true, .o 44 .pick [.t 37, .t 43, .kb false], .m 45 44, .fg 46 4 3 45 true, .lg 47 46 45 true, .fg 48 1 5 45 true, .lg 49 48 45 true, .g 50 (.iadr 1) [.t 47, .t 49] 45 true, .lg 51 50 45 true, .g 52 (.bin .neq 0) [.t 51, .k 0] 45 true, .o 53 .pick [.t 45, .t 52, .kb false]]) <| .cond (.t 53) ( .skip) ( .exit 1)) <| .seq (.block 2 ( .reg [.f 56 1 5, .l 57 56, .o 58 (.bin .add 0) [.t 57, .k 1], .m 59 6, .o 60 (.bin .rem 0) [.t 58, .t 59], .f 61 1 5, .s (.store 1) [.t 61, .t 60]])) <| .reg [.m 54 7, .o 55 (.bin .add 0) [.t 54, .k 1], .m 7 55]
def EP : ACode := .seq (.reg [.la 86 3 5, .s (.store 3) [.t 4, .t 86]]) <| .ret
abbrev Ho : Plan := .take (.o 83 (.bin .add 0) [.t 80, .t 82]) <| .take (.o 84 (.bin .sub 0) [.t 83, .k 5]) <| .take (.f 85 1 5) <| .al (.s (.store 1) [.t 85, .t 84]) ( .done)
def EQ : ACode := .seq (.reg [.f 19 4 3, .l 20 19, .n 21 20, .o 22 (.mnx false) [.t 21, .k 1], .m 6 22]) <| .seq (.seq (.reg [.f 23 0 5, .l 24 23]) <| .block 0 ( .seq (.reg [.o 26 (.bin .eql 0) [.t 24, .k 0], .m 25 26]) <| .cond (.t 25) ( .seq (.reg [.m 27 0, .m 28 6, .o 29 (.call 54 []) [.t 27, .t 28], .f 30 1 5, .s (.store 1) [.t 30, .t 29]]) <| .seq (.reg [.m 31 0, .o 32 (.call 54 []) [.t 31, .k 4], .o 33 (.bin .add 0) [.k 1, .t 32], .f 34 2 5, .s (.store 1) [.t 34, .t 33]]) <| .seq (.reg [.o 7 .mv [.k 0]]) <| .block 1 ( .loop [] [0, 3, 4, 5, 6, 7, 87] BQ)) ( .seq (.reg [.o 63 (.bin .eql 0) [.t 24, .k 1], .m 62 63]) <| .cond (.t 62) ( .reg [.m 64 0, .m 65 6, .o 66 (.call 54 []) [.t 64, .t 65], .f 67 1 5, .s (.store 1) [.t 67, .t 66]]) ( .seq (.reg [.o 69 (.bin .eql 0) [.t 24, .k 2], .m 68 69]) <| .cond (.t 68) ( .reg [.m 70 0, .f 71 0 3, .la 72 3 71, .f 73 4 3, .l 74 73, .o 75 (.call 167 []) [.t 70, .t 72, .t 74], .f 76 1 5, .s (.store 1) [.t 76, .t 75]]) ( .skip))))) <| .seq (.seq (.reg [.m 77 0, .o 78 (.call 45 []) [.t 77, .k 30]]) <| .cond (.t 78) ( .draw ( .take (.f 79 1 5) <| .take (.m 81 0) <| .alt (.l 80 79) ( .al (.o 82 (.call 54 []) [.t 81, .k 60]) Ho) <| .al (.o 82 (.call 54 []) [.t 81, .k 60]) ( .al (.l 80 79) Ho))) ( .skip)) <| .gc [] [4, 5, 87] EP
abbrev Gm : Plan := .al (.o 14 (.call 54 []) [.t 13, .k 60]) ( .take (.o 15 (.bin .quo 0) [.t 14, .k 59]) <| .take (.o 16 (.bin .mul 0) [.t 15, .k 5]) <| .take (.o 17 (.bin .add 0) [.t 12, .t 16]) <| .take (.o 18 (.build dz [(0, 1)]) [.t 17]) <| .al (.s (.store 3) [.t 5, .t 18]) ( .done))
abbrev B8 : Plan := .take (.o 17 (.bin .add 0) [.t 12, .t 16]) <| .take (.o 18 (.build dz [(0, 1)]) [.t 17]) <| .al (.s (.store 3) [.t 5, .t 18]) ( .done)
abbrev K4 : Plan := .take (.o 11 (.iadr 1) [.t 8, .t 10]) <| .alt (.l 12 11) ( .alt (.o 14 (.call 54 []) [.t 13, .k 60]) ( .take (.o 15 (.bin .quo 0) [.t 14, .k 59]) <| .take (.o 16 (.bin .mul 0) [.t 15, .k 5]) <| .take (.o 17 (.bin .add 0) [.t 12, .t 16]) <| .take (.o 18 (.build dz [(0, 1)]) [.t 17]) <| .al (.o 5 (.alloc dz) []) ( .al (.s (.store 3) [.t 5, .t 18]) ( .done))) <| .al (.o 5 (.alloc dz) []) Gm) <| .alt (.o 14 (.call 54 []) [.t 13, .k 60]) ( .take (.o 15 (.bin .quo 0) [.t 14, .k 59]) <| .take (.o 16 (.bin .mul 0) [.t 15, .k 5]) <| .alt (.l 12 11) ( .take (.o 17 (.bin .add 0) [.t 12, .t 16]) <| .take (.o 18 (.build dz [(0, 1)]) [.t 17]) <| .al (.o 5 (.alloc dz) []) ( .al (.s (.store 3) [.t 5, .t 18]) ( .done))) <| .al (.o 5 (.alloc dz) []) ( .al (.l 12 11) B8)) <| .al (.o 5 (.alloc dz) []) ( .alt (.l 12 11) Gm <| .al (.o 14 (.call 54 []) [.t 13, .k 60]) ( .take (.o 15 (.bin .quo 0) [.t 14, .k 59]) <| .take (.o 16 (.bin .mul 0) [.t 15, .k 5]) <| .al (.l 12 11) B8))
abbrev Gn : Plan := .take (.o 11 (.iadr 1) [.t 8, .t 10]) <| .alt (.l 12 11) Gm <| .al (.o 14 (.call 54 []) [.t 13, .k 60]) ( .take (.o 15 (.bin .quo 0) [.t 14, .k 59]) <| .take (.o 16 (.bin .mul 0) [.t 15, .k 5]) <| .al (.l 12 11) B8)
abbrev K5 : Plan := .alt (.o 8 (.bsl 1) [.k 0, .k 0, .k 0, .k 0, .k 1, .k 2, .k 2, .k 3, .k 4]) Gn <| .al (.o 14 (.call 54 []) [.t 13, .k 60]) ( .take (.o 15 (.bin .quo 0) [.t 14, .k 59]) <| .take (.o 16 (.bin .mul 0) [.t 15, .k 5]) <| .al (.o 8 (.bsl 1) [.k 0, .k 0, .k 0, .k 0, .k 1, .k 2, .k 2, .k 3, .k 4]) ( .take (.o 11 (.iadr 1) [.t 8, .t 10]) <| .al (.l 12 11) B8))
def Oc : ACode := .seq (.reg [.o 3 .box [.t 1], .o 4 (.alloc dz) []]) <| .seq (.draw ( .take (.m 9 0) <| .take (.m 13 0) <| .alt (.o 8 (.bsl 1) [.k 0, .k 0, .k 0, .k 0, .k 1, .k 2, .k 2, .k 3, .k 4]) ( .alt (.o 10 (.call 54 []) [.t 9, .k 9]) K4 <| .al (.o 5 (.alloc dz) []) ( .al (.o 10 (.call 54 []) [.t 9, .k 9]) Gn)) <| .alt (.o 10 (.call 54 []) [.t 9, .k 9]) ( .alt (.o 8 (.bsl 1) [.k 0, .k 0, .k 0, .k 0, .k 1, .k 2, .k 2, .k 3, .k 4]) K4 <| .alt (.o 14 (.call 54 []) [.t 13, .k 60]) ( .take (.o 15 (.bin .quo 0) [.t 14, .k 59]) <| .take (.o 16 (.bin .mul 0) [.t 15, .k 5]) <| .alt (.o 8 (.bsl 1) [.k 0, .k 0, .k 0, .k 0, .k 1, .k 2, .k 2, .k 3, .k 4]) ( .take (.o 11 (.iadr 1) [.t 8, .t 10]) <| .alt (.l 12 11) ( .take (.o 17 (.bin .add 0) [.t 12, .t 16]) <| .take (.o 18 (.build dz [(0, 1)]) [.t 17]) <| .al (.o 5 (.alloc dz) []) ( .al (.s (.store 3) [.t 5, .t 18]) ( .done))) <| .al (.o 5 (.alloc dz) []) ( .al (.l 12 11) B8)) <| .al (.o 5 (.alloc dz) []) ( .al (.o 8 (.bsl 1) [.k 0, .k 0, .k 0, .k 0, .k 1, .k 2, .k 2, .k 3, .k 4]) ( .take (.o 11 (.iadr 1) [.t 8, .t 10]) <| .al (.l 12 11) B8))) <| .al (.o 5 (.alloc dz) []) K5) <| .al (.o 5 (.alloc dz) []) ( .alt (.o 8 (.bsl 1) [.k 0, .k 0, .k 0, .k 0, .k 1, .k 2, .k 2, .k 3, .k 4]) ( .al (.o 10 (.call 54 []) [.t 9, .k 9]) Gn) <| .al (.o 10 (.call 54 []) [.t 9, .k 9]) K5))) <| .gc [] [0, 3, 4, 5, 87] EQ
theorem VU : cFn Tryz.prog KM 87 [.c 4 true 3] Oc := ⟨Tryz.f120, _, Tryz.func120, rfl, by kernel_rfl, by kernel_rfl, by kernel_rfl, by kernel_rfl⟩
@[simp] abbrev KN : Nat := 57
abbrev Ci : Plan := .al (.o 30 (.call 73 []) [.t 26, .t 29]) ( .take (.m 25 30) <| .take (.e 31 0 25) <| .take (.e 32 1 25) <| .al (.s (.store 6) [.t 9, .t 31]) ( .take (.m 10 32) <| .done))
abbrev Hp : Plan := .alt (.o 30 (.call 73 []) [.t 26, .t 29]) ( .take (.m 25 30) <| .take (.e 31 0 25) <| .take (.e 32 1 25) <| .al (.o 9 (.alloc bz) []) ( .al (.s (.store 6) [.t 9, .t 31]) ( .take (.m 10 32) <| .done))) <| .al (.o 9 (.alloc bz) []) Ci
abbrev Cj : Plan := .al (.o 29 (.call 120 []) [.t 27, .t 28]) Ci
abbrev Hq : Plan := .alt (.la 26 6 7) Cj <| .al (.o 29 (.call 120 []) [.t 27, .t 28]) ( .al (.la 26 6 7) Ci)
abbrev Hs : Plan := .alt (.o 29 (.call 120 []) [.t 27, .t 28]) Hp <| .al (.o 9 (.alloc bz) []) Cj
def ER : ACode := .seq (.seq (.reg [.m 21 8, .o 22 (.bin .gtr 0) [.t 21, .k 0]]) <| .cond (.t 22) ( .skip) ( .exit 0)) <| .seq (.block 1 ( .seq (.draw ( .take (.m 27 0) <| .alt (.la 26 6 7) ( .alt (.la 28 6 7) Hs <| .al (.o 9 (.alloc bz) []) ( .al (.la 28 6 7) Cj)) <| .alt (.la 28 6 7) ( .alt (.la 26 6 7) Hs <| .alt (.o 29 (.call 120 []) [.t 27, .t 28]) ( .alt (.la 26 6 7) Hp <| .al (.o 9 (.alloc bz) []) ( .al (.la 26 6 7) Ci)) <| .al (.o 9 (.alloc bz) []) Hq) <| .al (.o 9 (.alloc bz) []) ( .alt (.la 26 6 7) ( .al (.la 28 6 7) Cj) <| .al (.la 28 6 7) Hq))) <| .seq (.reg [.m 33 10]) <| .cond (.t 33) ( .reg [.la 34 6 9, .s (.store 6) [.t 7, .t 34]]) ( .skip))) <| .reg [.m 23 8, .o 24 (.bin .sub 0) [.t 23, .k 1], .m 8 24]
def Od : ACode := .seq (.reg [.o 4 (.alloc bz) []]) <| .seq (.reg [.m 12 0, .o 13 (.call 118 []) [.t 12, .k 0], .m 11 13, .e 14 0 11, .e 15 1 11, .o 5 (.alloc rz) [], .s (.store 3) [.t 5, .t 14], .m 6 15]) <| .seq (.reg [.la 16 3 5, .m 17 6, .o 18 (.call 119 []) [.t 16, .t 17], .o 7 (.alloc bz) [], .s (.store 6) [.t 7, .t 18]]) <| .seq (.seq (.reg [.m 19 0, .o 20 (.call 54 []) [.t 19, .k 14], .m 8 20]) <| .block 0 ( .loop [] [0, 1, 4, 7, 8, 64] ER)) <| .seq (.seq (.reg [.m 35 0, .m 36 1, .o 37 (.call 45 []) [.t 35, .t 36]]) <| .cond (.t 37) ( .seq (.reg [.m 38 0, .o 39 (.call 54 []) [.t 38, .k 4]]) <| .block 2 ( .seq (.reg [.o 46 (.bin .eql 0) [.t 39, .k 0], .m 45 46]) <| .cond (.t 45) ( .reg [.f 47 4 7, .l 48 47, .o 49 (.bsl 1) [.k 0], .o 50 (.app 1 8 true) [.t 48, .t 49], .f 51 4 7, .s (.store 1) [.t 51, .t 50]]) ( .seq (.reg [.o 53 (.bin .eql 0) [.t 39, .k 1], .m 52 53]) <| .cond (.t 52) ( .reg [.f 54 5 7, .l 55 54, .o 56 (.bsl 1) [.k 9], .o 57 (.bsl 1) [.t 56], .o 58 (.app 1 24 false) [.t 55, .t 57], .f 59 5 7, .s (.store 1) [.t 59, .t 58]]) ( .seq (.reg [.o 61 (.bin .eql 0) [.t 39, .k 2], .m 60 61]) <| .cond (.t 60) ( .seq (.reg [.o 62 (.build bz []) [], .s (.store 6) [.t 4, .t 62]]) <| .ret) ( .reg [.f 40 3 7, .l 41 40, .o 42 (.bsl 1) [.k 0], .o 43 (.app 1 8 true) [.t 41, .t 42], .f 44 3 7, .s (.store 1) [.t 44, .t 43]]))))) ( .skip)) <| .seq (.reg [.la 63 6 7, .s (.store 6) [.t 4, .t 63]]) <| .ret
theorem VV : cFn Tryz.prog KN 64 [.c 4 true 6] Od := ⟨Tryz.f57, _, Tryz.func57, rfl, by kernel_rfl, by kernel_rfl, by kernel_rfl, by kernel_rfl⟩
@[simp] abbrev Fy : Nat := 17
abbrev FP : Plan := .al (.s (.store 6) [.t 2, .t 14]) ( .take (.m 3 17) <| .done)
abbrev FQ : Plan := .al (.o 17 (.call 58 []) [.t 15, .t 16]) FP
def HN : ACode := .seq (.draw ( .take (.m 15 4) <| .alt (.la 14 6 5) ( .al (.la 16 6 5) FQ) <| .al (.la 16 6 5) ( .alt (.la 14 6 5) FQ <| .al (.o 17 (.call 58 []) [.t 15, .t 16]) ( .al (.la 14 6 5) FP)))) <| .ret
abbrev HO : Plan := .al (.s (.store 6) [.t 2, .t 12]) ( .take (.m 3 13) <| .done)
def Ju : ACode := .seq (.reg [.o 2 (.alloc bz) [], .o 3 .mv [.c (.os 3 [])]]) <| .seq (.reg [.m 6 0, .o 7 (.call 43 []) [.t 6], .m 4 7]) <| .seq (.reg [.m 8 4, .o 9 (.call 57 []) [.t 8, .k 12], .o 5 (.alloc bz) [], .s (.store 6) [.t 5, .t 9]]) <| .seq (.seq (.reg [.m 10 4, .o 11 (.call 45 []) [.t 10, .k 30]]) <| .cond (.t 11) ( .seq (.draw ( .alt (.la 12 6 5) ( .alt (.o 13 (.mksl 3 24 (.agg [.v (.int .i64 (0)), .v (.int .i64 (0)), .v (.int .i64 (0))])) [.k 41, .k 41]) HO <| .al (.s (.store 6) [.t 2, .t 12]) ( .al (.o 13 (.mksl 3 24 (.agg [.v (.int .i64 (0)), .v (.int .i64 (0)), .v (.int .i64 (0))])) [.k 41, .k 41]) ( .take (.m 3 13) <| .done))) <| .al (.o 13 (.mksl 3 24 (.agg [.v (.int .i64 (0)), .v (.int .i64 (0)), .v (.int .i64 (0))])) [.k 41, .k 41]) ( .al (.la 12 6 5) HO))) <| .ret) ( .skip)) <| .gc [] [2, 4, 5] HN
theorem Ql : cFn Tryz.prog Fy 18 [.c 2 true 6, .t 3] Ju := ⟨Tryz.f17, _, Tryz.func17, rfl, by kernel_rfl, by kernel_rfl, by kernel_rfl, by kernel_rfl⟩
@[simp] abbrev Iu : Nat := 58
def Ds : ACode := .seq (.seq (.reg [.m 15 7, .o 16 (.bin .gtr 0) [.t 15, .k 0]]) <| .cond (.t 16) ( .skip) ( .exit 0)) <| .seq (.block 1 ( .seq (.reg [.m 19 0, .la 20 6 6, .o 21 (.call 120 []) [.t 19, .t 20], .o 8 (.alloc dz) [], .s (.store 3) [.t 8, .t 21]]) <| .seq (.reg [.la 23 6 6, .la 24 3 8, .o 25 (.call 73 []) [.t 23, .t 24], .m 22 25, .e 26 0 22, .e 27 1 22, .o 9 (.alloc bz) [], .s (.store 6) [.t 9, .t 26], .m 10 27]) <| .seq (.seq (.reg [.m 28 10]) <| .cond (.t 28) ( .reg [.la 29 6 9, .s (.store 6) [.t 6, .t 29]]) ( .skip)) <| .reg [.m 30 5, .la 31 3 8, .o 32 (.bsl 3) [.t 31], .o 33 (.app 3 24 true) [.t 30, .t 32], .m 5 33])) <| .reg [.m 17 7, .o 18 (.bin .sub 0) [.t 17, .k 1], .m 7 18]
def NQ : ACode := .seq (.reg [.o 3 .box [.t 1], .o 4 .mv [.c (.os 3 [])]]) <| .seq (.reg [.o 11 (.bsl 3) [], .m 5 11]) <| .seq (.reg [.la 12 6 3, .o 6 (.alloc bz) [], .s (.store 6) [.t 6, .t 12]]) <| .seq (.seq (.reg [.m 13 0, .o 14 (.call 54 []) [.t 13, .k 12], .m 7 14]) <| .block 0 ( .loop [(5, 3)] [0, 5, 6, 7, 35] Ds)) <| .seq (.reg [.m 34 5, .m 4 34]) <| .ret
theorem UN : cFn Tryz.prog Iu 35 [.t 4] NQ := ⟨Tryz.f58, _, Tryz.func58, rfl, by kernel_rfl, by kernel_rfl, by kernel_rfl, by kernel_rfl⟩
@[simp] def md8 (f : Nat) : List Bool := if f = HZ then [true, false, false] else if f = KM ∨ f = KN ∨ f = Iu then [true, false] else if f = 999999 ∨ f = 999999 ∨ f = 999999 ∨ f = 999999 ∨ f = Fy ∨ f = 999999 then [true] else md5 f
def kg (bs : List Int) (p : Nat) (r : AV) (ups : List AV) : Prop := ∃ (x : Int) (q : Nat), -1 ≤ x ∧ x ≤ 49 ∧ q ≤ p + 3 ∧ r = .v (.int .i64 x) ∧ ups = [rdA bs q, .bot, .bot]
theorem Sf (bs : List Int) (p : Nat) (W T : Int) (cs : List Bool) (ls : List Int) (hb : bs.length ≤ 2000) (hB : Byt bs) (hp : p < 2 ^ 39) (hc : cs.length < 2 ^ 40) (hl : ls.length < 2 ^ 40) :
  SoundSet Tryz.prog HZ [rdA bs p, .agg [.v (.int .i64 W), .v (.int .i64 T), .sl 1 1 (AD cs)], .sl 1 1 (AC ls)] (kg bs p) := by
 refine Hb (md := md8) (ms := [true, false, false]) Sd (by simp) ?_
 have fl := VR W T cs ls hc hl
 have h49 := KL W T cs ls (ZS W T cs)
 have hn49 := eF W T cs
 have hmem := @ZR W T cs ls (ZS W T cs)
 change (YP W T cs ls).length ≤ _ at h49
 change ∀ {x : Int}, x ∈ YP W T cs ls → _ at hmem
 have cm := Gl W T cs hc
 obtain ⟨M, hM, m1, m2⟩ : ∃ M : Int, (if A3 W T cs = true then aP W T else -1) = M ∧ -1 ≤ M ∧ M ≤ 49 := by
  refine ⟨_, rfl, ?_⟩
  split
  ·rename_i hr
   obtain ⟨w1, w2, t1, t2, _⟩ := BI hr
   have := V9 w1 w2 t1 t2
   omega
  ·omega
 rw [hM] at cm
 generalize YP W T cs ls = fs at *
 simp [MD]
 refine AA fl ?_
 by_cases hz : fs = []
 ·subst hz
  simp
  refine AA cm ?_
  simp
  refine ⟨by split <;> omega, ?_⟩
  refine AE (AB bs p ((if M < 0 then 0 else M) + 1) hb hB (by omega)) [0] (by simp) (by simp) (by simp) ?_
  rintro _ _ ⟨x, x0, x1, rfl, rfl⟩
  simp
  refine AE (AB bs (p + 1) 20 hb hB (by omega)) [0] (by simp) (by simp) (by simp) ?_
  rintro _ _ ⟨y, y0, y1, rfl, rfl⟩
  simp
  have hx : x ≤ 49 := by split at x1 <;> omega
  refine ⟨by omega, by omega, _, _, ⟨x - y / 19, p + 1 + 1, by omega, by omega, by omega, rfl, rfl⟩, ?_⟩
  simp
 ·have hz0 : 0 < fs.length := by
   cases fs with
   | nil => exact absurd rfl hz
   | cons a l => simp
  have hz1 : (0 : Int) < fs.length := by omega
  simp [hz, hz0, hz1]
  refine AE (AB bs p 3 hb hB (by omega)) [0] (by simp) (by simp) (by simp) ?_
  rintro _ _ ⟨x, x0, x1, rfl, rfl⟩
  by_cases hx : 0 < x
  ·simp [hx]
   refine AE (AB bs (p + 1) fs.length hb hB (by omega)) [0] (by simp) (by simp) (by simp) ?_
   rintro _ _ ⟨y, y0, y1, rfl, rfl⟩
   have y2 : y < fs.length := by omega
   have hy : ati fs y ∈ fs := by
    have : y.toNat < fs.length := by omega
    simp [ati, this]
   have := hmem hy
   have hg : (AC fs)[y.toNat]? = some (.v (.int .i64 (ati fs y))) := Zy (by omega)
   have hmx : max y 0 = y := by omega
   simp [y0, y2, hg, hmx]
   refine ⟨_, _, ⟨ati fs y, p + 1 + 1, by omega, by omega, by omega, rfl, rfl⟩, ?_⟩
   simp
  ·simp [hx]
   refine AA cm ?_
   simp
   refine ⟨by split <;> omega, ?_⟩
   refine AE (AB bs (p + 1) ((if M < 0 then 0 else M) + 1) hb hB (by omega)) [0] (by simp) (by simp) (by simp) ?_
   rintro _ _ ⟨z, z0, z1, rfl, rfl⟩
   simp
   refine AE (AB bs (p + 1 + 1) 20 hb hB (by omega)) [0] (by simp) (by simp) (by simp) ?_
   rintro _ _ ⟨y, y0, y1, rfl, rfl⟩
   simp
   have hx : z ≤ 49 := by split at z1 <;> omega
   refine ⟨by omega, by omega, _, _, ⟨z - y / 19, p + 1 + 1 + 1, by omega, by omega, by omega, rfl, rfl⟩, ?_⟩
   simp
def eG (bs : List Int) (p : Nat) (r : AV) (ups : List AV) : Prop := ∃ (k s w : Int) (q : Nat), 0 ≤ k ∧ k ≤ 20 ∧ -100 ≤ s ∧ s ≤ 200 ∧ 0 ≤ w ∧ w ≤ 4 ∧ q ≤ p + 10 ∧ r = LK k s w ∧ ups = [rdA bs q, .bot]
abbrev nd9 : List AV := [AV.v (.int .i64 0), AV.v (.int .i64 0), AV.v (.int .i64 0), AV.v (.int .i64 0), AV.v (.int .i64 1), AV.v (.int .i64 2), AV.v (.int .i64 2), AV.v (.int .i64 3), AV.v (.int .i64 4)]
theorem i6 {x : Int} (h0 : 0 ≤ x) (h1 : x < 9) : ∃ v : Int, 0 ≤ v ∧ v ≤ 4 ∧ ∀ h : x.toNat < nd9.length, nd9[x.toNat]'h = .v (.int .i64 v) := by
 obtain rfl | rfl | rfl | rfl | rfl | rfl | rfl | rfl | rfl : x = 0 ∨ x = 1 ∨ x = 2 ∨ x = 3 ∨ x = 4 ∨ x = 5 ∨ x = 6 ∨ x = 7 ∨ x = 8 := by omega
 ·exact ⟨0, by decide, by decide, fun _ => rfl⟩
 ·exact ⟨0, by decide, by decide, fun _ => rfl⟩
 ·exact ⟨0, by decide, by decide, fun _ => rfl⟩
 ·exact ⟨0, by decide, by decide, fun _ => rfl⟩
 ·exact ⟨1, by decide, by decide, fun _ => rfl⟩
 ·exact ⟨2, by decide, by decide, fun _ => rfl⟩
 ·exact ⟨2, by decide, by decide, fun _ => rfl⟩
 ·exact ⟨3, by decide, by decide, fun _ => rfl⟩
 ·exact ⟨4, by decide, by decide, fun _ => rfl⟩
abbrev oZ (bs : List Int) (p : Nat) := Yq [RV.c 4 true 3] 87 2 [true, false] (eG bs p)
abbrev l7 (bs : List Int) (q : Nat) (W T : Int) (cs : List Bool) (ds ls : List Int) (ps : List (List Int)) (k s w : Int) : AM :=
 [some (.box [.sl 0 1 (u8s bs), .v (.int .i64 q)]), some (.box [.v (.int .i64 W), .v (.int .i64 T), .sl 1 1 (AD cs), .sl 1 1 (AC ds), .sl 1 1 (AC ls), .sl 1 1 (sls 1 ps)]), some (.box [.v (.int .i64 0), .v (.int .i64 0), .v (.int .i64 0)]),
  some (.box [.v (.int .i64 k), .v (.int .i64 s), .v (.int .i64 w)])]
abbrev R1 : Plan := .take (.o 83 (.bin .add 0) [.t 80, .t 82]) <| .take (.o 84 (.bin .sub 0) [.t 83, .k 5]) <| .take (.f 85 1 5) <| .al (.s (.store 1) [.t 85, .t 84]) ( .done)
def UO : ACode := .seq (.seq (.reg [.m 77 0, .o 78 (.call 45 []) [.t 77, .k 30]]) <| .cond (.t 78) ( .draw ( .take (.f 79 1 5) <| .take (.m 81 0) <| .alt (.l 80 79) ( .al (.o 82 (.call 54 []) [.t 81, .k 60]) R1) <| .al (.o 82 (.call 54 []) [.t 81, .k 60]) ( .al (.l 80 79) R1))) ( .skip)) <| .gc [] [4, 5, 87] EP
def UP : ACode := .block 0 ( .seq (.reg [.o 26 (.bin .eql 0) [.t 24, .k 0], .m 25 26]) <| .cond (.t 25) ( .seq (.reg [.m 27 0, .m 28 6, .o 29 (.call 54 []) [.t 27, .t 28], .f 30 1 5, .s (.store 1) [.t 30, .t 29]]) <| .seq (.reg [.m 31 0, .o 32 (.call 54 []) [.t 31, .k 4], .o 33 (.bin .add 0) [.k 1, .t 32], .f 34 2 5, .s (.store 1) [.t 34, .t 33]]) <| .seq (.reg [.o 7 .mv [.k 0]]) <| .block 1 ( .loop [] [0, 3, 4, 5, 6, 7, 87] BQ)) ( .seq (.reg [.o 63 (.bin .eql 0) [.t 24, .k 1], .m 62 63]) <| .cond (.t 62) ( .reg [.m 64 0, .m 65 6, .o 66 (.call 54 []) [.t 64, .t 65], .f 67 1 5, .s (.store 1) [.t 67, .t 66]]) ( .seq (.reg [.o 69 (.bin .eql 0) [.t 24, .k 2], .m 68 69]) <| .cond (.t 68) ( .reg [.m 70 0, .f 71 0 3, .la 72 3 71, .f 73 4 3, .l 74 73, .o 75 (.call 167 []) [.t 70, .t 72, .t 74], .f 76 1 5, .s (.store 1) [.t 76, .t 75]]) ( .skip))))
theorem eI : EQ = .seq (.reg [.f 19 4 3,
  .l 20 19,
  .n 21 20,
  .o 22 (.mnx false) [.t 21, .k 1],
  .m 6 22]) (.seq (.seq (.reg [.f 23 0 5,
  .l 24 23]) UP) UO) := rfl
theorem eJ (bs : List Int) (p q : Nat) (k s w : Int) (hq : q ≤ p + 10) (hk : 0 ≤ k ∧ k ≤ 20) (hs : -100 ≤ s ∧ s ≤ 200) (hw : 0 ≤ w ∧ w ≤ 4) :
  awp Tryz.prog md8 EP (oZ bs p) [(4, .lp 0 0 0 0), (5, .lp 0 1 0 0), (87, .lp 0 2 0 0)]
   [some (.box [.v (.int .i64 0), .v (.int .i64 0), .v (.int .i64 0)]), some (.box [.v (.int .i64 k), .v (.int .i64 s), .v (.int .i64 w)]), some (.box [.sl 0 1 (u8s bs), .v (.int .i64 q)])] := by
 simp [EP]
 refine ⟨_, _, ⟨k, s, w, q, hk.1, hk.2, hs.1, hs.2, hw.1, hw.2, hq, rfl, rfl⟩, ?_⟩
 simp
theorem S7 (bs : List Int) (p q : Nat) (W T : Int) (cs : List Bool) (ds ls : List Int) (ps : List (List Int)) (k s w : Int) (hb : bs.length ≤ 2000) (hB : Byt bs) (hp : p < 2 ^ 38) (hq : q ≤ p + 8) (hk : 0 ≤ k ∧ k ≤ 20) (hs : -90 ≤ s ∧ s ≤ 140) (hw : 0 ≤ w ∧ w ≤ 4) (E : ES)
  (e0 : get E 0 = .lp 0 0 0 0) (e4 : get E 4 = .lp 0 2 0 0) (e5 : get E 5 = .lp 0 3 0 0) (e87 : get E 87 = .lp 0 0 0 0) :
  awp Tryz.prog md8 UO (oZ bs p) E (l7 bs q W T cs ds ls ps k s w) := by
 simp [UO, e0, e4, e5, e87]
 refine AE (CF bs q 30 hb hB (by omega) (by omega)) [0] (by simp) (by simp) (by simp) ?_
 rintro _ _ ⟨b, q2, rfl, hq2, rfl⟩
 cases b with
 | false =>
   simp [AO, e0, e4, e5, e87]
   exact eJ bs p q2 k s w (by omega) hk (by omega) hw
 | true =>
   simp [AO, e0, e4, e5, e87]
   (repeat' first | omega | apply And.intro) <;>
   ·refine AE (AB bs q2 60 hb hB (by omega)) [0] (by simp) (by simp) (by simp) ?_
    rintro _ _ ⟨x, x0, x1, rfl, rfl⟩
    simp [AO, e0, e4, e5, e87]
    exact ⟨by omega, by omega, eJ bs p (q2 + 1) k (s + x - 5) w (by omega) hk (by omega) hw⟩
theorem go (bs : List Int) (q : Nat) (W T : Int) (cs : List Bool) (ds ls : List Int) (ps : List (List Int)) (k s w : Int) (hl : ls.length ≤ 40) (n : Int) (hn : n = if (ls.length : Int) < 1 then 1 else (ls.length : Int)) (hs : 0 ≤ s ∧ s < n) (Qc : AExit → ES → AM → Prop)
  (hend : ∀ (s : Int) (E : ES), 0 ≤ s → s ≤ 40 → get E 0 = .lp 0 0 0 0 → get E 4 = .lp 0 2 0 0 → get E 5 = .lp 0 3 0 0 → get E 87 = .lp 0 0 0 0 → Qc (.exit 1) E (l7 bs q W T cs ds ls ps k s w)) :
  CH [] [0, 3, 4, 5, 6, 7, 87] (awp Tryz.prog md8 BQ) Qc
   [(0, .lp 0 0 0 0), (3, .lp 0 1 0 0), (4, .lp 0 2 0 0), (5, .lp 0 3 0 0), (6, .v (.int .i64 n)), (7, .v (.int .i64 0)), (87, .lp 0 0 0 0)] (l7 bs q W T cs ds ls ps k s w) := by
 have n40 : 1 ≤ n ∧ n ≤ 40 := by rw [hn]; split <;> omega
 refine AH (fun m E H => ∃ (i : Nat) (s : Int), m = 4 - i ∧ i ≤ 4 ∧ 0 ≤ s ∧ s < n ∧ E = [(0, .lp 0 0 0 0), (3, .lp 0 1 0 0), (4, .lp 0 2 0 0), (5, .lp 0 3 0 0), (6, .v (.int .i64 n)), (7, .v (.int .i64 i)), (87, .lp 0 0 0 0)] ∧
  H = l7 bs q W T cs ds ls ps k s w) 4 ⟨0, s, rfl, by omega, hs.1, hs.2, rfl, rfl⟩ ?_
 rintro J hJ m E H ⟨i, s, rfl, hi, s0, s1, rfl, rfl⟩
 by_cases h4 : i < 4
 case neg =>
  have : i = 4 := by omega
  subst this
  simp [BQ]
  exact hend s _ s0 (by omega) rfl rfl rfl rfl
 have h4' : (i : Int) < 4 := by omega
 by_cases hsl : s < ls.length
 case neg =>
  simp [BQ, h4', hsl]
  exact hend s _ s0 (by omega) rfl rfl rfl rfl
 by_cases hz : ati ls s = 0
 ·simp [BQ, h4', hsl, s0, hz]
  exact hend s _ s0 (by omega) rfl rfl rfl rfl
 ·have r0 := Int.emod_nonneg (s + 1) (show n ≠ 0 by omega)
  have r1 := Int.emod_lt_of_pos (s + 1) (show 0 < n by omega)
  simp [BQ, h4', hsl, s0, hz]
  exact ⟨by omega, by omega, by omega, _, by omega, hJ _ _ _ ⟨i + 1, (s + 1) % n, rfl, by omega, r0, r1, by simp, rfl⟩⟩
set_option maxHeartbeats 2000000 in
theorem nW (bs : List Int) (p q : Nat) (W T : Int) (cs : List Bool) (ds ls : List Int) (ps : List (List Int)) (k : Int) (hb : bs.length ≤ 2000) (hB : Byt bs) (hp : p < 2 ^ 38) (hc : cs.length ≤ 40) (hd : ds.length ≤ 40) (hl : ls.length ≤ 40)
  (hq : q ≤ p + 2) (hk : 0 ≤ k ∧ k ≤ 20) :
  awp Tryz.prog md8 EQ (oZ bs p) [(0, .lp 0 0 0 0), (3, .lp 0 1 0 0), (4, .lp 0 2 0 0), (5, .lp 0 3 0 0), (87, .lp 0 0 0 0)] (l7 bs q W T cs ds ls ps k 0 0) := by
 have n40 : 1 ≤ (if (ls.length : Int) < 1 then 1 else (ls.length : Int)) ∧ (if (ls.length : Int) < 1 then 1 else (ls.length : Int)) ≤ 40 := by split <;> omega
 have pkn : SoundSet Tryz.prog Cv [rdA bs q, .v (.int .i64 (if (ls.length : Int) < 1 then 1 else (ls.length : Int)))] (RP bs (if (ls.length : Int) < 1 then 1 else (ls.length : Int)) q) := AB bs q _ hb hB (by omega)
 rw [eI]
 simp
 by_cases h0 : k = 0
 ·subst h0
  simp [UP]
  refine AE pkn [0] (by simp) (by simp) (by simp) ?_
  rintro _ _ ⟨x, x0, x1, rfl, rfl⟩
  simp
  refine AE (AB bs (q + 1) 4 hb hB (by omega)) [0] (by simp) (by simp) (by simp) ?_
  rintro _ _ ⟨y, y0, y1, rfl, rfl⟩
  simp
  refine ⟨by omega, ?_⟩
  refine go bs (q + 1 + 1) W T cs ds ls ps 0 x (1 + y) hl (if (ls.length : Int) < 1 then 1 else (ls.length : Int)) rfl (by omega) _ ?_
  intro s E s0 s1 e0 e4 e5 e87
  simp
  exact S7 bs p (q + 1 + 1) W T cs ds ls ps 0 s (1 + y) hb hB hp (by omega) hk (by omega) (by omega) E e0 e4 e5 e87
 by_cases h1 : k = 1
 ·subst h1
  simp [UP]
  refine AE pkn [0] (by simp) (by simp) (by simp) ?_
  rintro _ _ ⟨x, x0, x1, rfl, rfl⟩
  simp
  exact S7 bs p (q + 1) W T cs ds ls ps 1 x 0 hb hB hp (by omega) hk (by omega) (by omega) _ rfl rfl rfl rfl
 by_cases h2 : k = 2
 ·subst h2
  simp [UP]
  refine AE (Sf bs q W T cs ls hb hB (by omega) (by omega) (by omega)) [0] (by simp) (by simp) (by simp) ?_
  rintro _ _ ⟨x, q2, x0, x1, hq2, rfl, rfl⟩
  simp
  exact S7 bs p q2 W T cs ds ls ps 2 x 0 hb hB hp (by omega) hk (by omega) (by omega) _ rfl rfl rfl rfl
 ·simp [UP, h0, h1, h2]
  exact S7 bs p q W T cs ds ls ps k 0 0 hb hB hp (by omega) hk (by omega) (by omega) _ rfl rfl rfl rfl
set_option maxHeartbeats 20000000 in
theorem KO (bs : List Int) (p : Nat) (W T : Int) (cs : List Bool) (ds ls : List Int) (ps : List (List Int)) (hb : bs.length ≤ 2000) (hB : Byt bs) (hp : p < 2 ^ 38) (hc : cs.length ≤ 40) (hd : ds.length ≤ 40) (hl : ls.length ≤ 40) :
  SoundSet Tryz.prog KM [rdA bs p, bkA W T cs ds ls ps] (eG bs p) := by
 refine Hb (md := md8) (ms := [true, false]) VU (by simp) ?_
 have pk9 : ∀ q, q ≤ p + 2 → SoundSet Tryz.prog Cv [rdA bs q, .v (.int .i64 9)] (RP bs 9 q) := fun q hq => AB bs q 9 hb hB (by omega)
 have pk60 : ∀ q, q ≤ p + 2 → SoundSet Tryz.prog Cv [rdA bs q, .v (.int .i64 60)] (RP bs 60 q) := fun q hq => AB bs q 60 hb hB (by omega)
 have fin : ∀ (q : Nat) (k : Int), q ≤ p + 2 → 0 ≤ k ∧ k ≤ 20 → awp Tryz.prog md8 EQ (oZ bs p) [(0, .lp 0 0 0 0), (3, .lp 0 1 0 0), (4, .lp 0 2 0 0), (5, .lp 0 3 0 0), (87, .lp 0 0 0 0)] (l7 bs q W T cs ds ls ps k 0 0) :=
  fun q k hq hk => nW bs p q W T cs ds ls ps k hb hB hp hc hd hl hq hk
 simp [Oc]
 repeat' first
  | omega
  | apply And.intro
  | (refine AE (pk9 p (by omega)) [0] ?_ ?_ ?_ ?_
     ·simp
     ·simp
     ·simp
     rintro _ _ ⟨x, x0, x1, rfl, rfl⟩
     obtain ⟨v, v0, v4, hv⟩ := i6 x0 (by omega)
     have x9 : x < 9 := by omega
     simp [x0, hv, x9])
  | (refine AE (pk9 (p + 1) (by omega)) [0] ?_ ?_ ?_ ?_
     ·simp
     ·simp
     ·simp
     rintro _ _ ⟨x, x0, x1, rfl, rfl⟩
     obtain ⟨v, v0, v4, hv⟩ := i6 x0 (by omega)
     have x9 : x < 9 := by omega
     simp [x0, hv, x9])
  | (refine AE (pk60 (p + 1) (by omega)) [0] ?_ ?_ ?_ ?_
     ·simp
     ·simp
     ·simp
     rintro _ _ ⟨y, y0, y1, rfl, rfl⟩
     simp [x0, hv, x9])
  | (refine AE (pk60 p (by omega)) [0] ?_ ?_ ?_ ?_
     ·simp
     ·simp
     ·simp
     rintro _ _ ⟨y, y0, y1, rfl, rfl⟩
     simp)
  | (refine fin (p + 1 + 1) _ (by omega) ?_)
def eK (bs : List Int) (p d : Nat) (r : AV) (ups : List AV) : Prop := ∃ (W T : Int) (cs : List Bool) (ds ls : List Int) (ps : List (List Int)) (q : Nat), cs.length ≤ 37 ∧ ds.length ≤ 38 ∧ ls.length ≤ 38 ∧ ps.length ≤ 21 ∧ (∀ x ∈ ps, x.length ≤ 37) ∧ q ≤ p + d ∧
 r = bkO W T cs ds ls ps ∧ ups = [rdA bs q, .bot]
def R2 (W T : Int) (cs : List Bool) (ds ls : List Int) (ps : List (List Int)) : Prop := Bw W T cs ds ls ps = true ∨ (cs = [] ∧ ds = [] ∧ ls = [] ∧ ps = [])
theorem Ra {W T : Int} {cs : List Bool} {ds ls : List Int} {ps : List (List Int)} (h : R2 W T cs ds ls ps) : cs.length ≤ 36 ∧ ds.length ≤ 36 ∧ ls.length ≤ 36 ∧ ps.length ≤ 20 ∧ ∀ x ∈ ps, x.length ≤ 36 := by
 rcases h with h | ⟨rfl, rfl, rfl, rfl⟩
 ·obtain ⟨h1, h2, h3⟩ := A6 h
  obtain ⟨a1, a2, a3⟩ := CD h1
  refine ⟨a1, by omega, by omega, h2, fun x hx => ?_⟩
  have := CD (h3 x hx)
  omega
 ·simp
theorem eM {W T : Int} {cs : List Bool} : AU W T cs (A5 cs) = true := by
 simp only [AU, Bool.and_eq_true, decide_eq_true_eq, CI]
 refine ⟨by simp [A5], fun k hk => ?_⟩
 have : ati (A5 cs) k = 0 := by
  simp only [A5, List.length_replicate] at hk
  simp [ati, A5, hk]
 simp [ID, this]
theorem gp (cs : List Bool) (k : Nat) : ati (A5 cs) k = 0 := by
 simp only [ati, A5, Int.toNat_natCast, List.getD_eq_getElem?_getD]
 by_cases h : k < cs.length
 ·simp [h]
 ·simp [h]
theorem eO {W T : Int} {cs : List Bool} {ds : List Int} (hr : A3 W T cs = true) (hd : DV cs ds = true) : Ah W T cs ds (A5 cs) = true := by
 refine kT hr hd eM ?_
 have : BZ W T ds (A5 cs) = [] := by
  simp [BZ, A4, gp]
 rw [this]; rfl
theorem nX (W T : Int) (cs : List Bool) (ds : List Int) : ∃ (W2 T2 : Int) (cs2 : List Bool) (ds2 ls2 : List Int), kf W T cs ds = bkO W2 T2 cs2 ds2 ls2 [] ∧ R2 W2 T2 cs2 ds2 ls2 [] := by
 unfold kf
 split
 ·rename_i h
  simp only [Bool.and_eq_true] at h
  exact ⟨W, T, cs, ds, A5 cs, rfl, .inl (ZT (eO h.1 h.2) (by simp) (by simp))⟩
 ·exact ⟨0, 0, [], [], [], rfl, .inr ⟨rfl, rfl, rfl, rfl⟩⟩
theorem eP {W T : Int} {cs : List Bool} {ds ls : List Int} {ps : List (List Int)} (k s w : Int) (h : Bw W T cs ds ls ps = true) : Bw W T cs ds (doI W T cs ds ls ps k s w).2.1 (doI W T cs ds ls ps k s w).2.2 = true := by
 obtain ⟨h1, h2, h3⟩ := A6 h
 unfold doI Ki
 split
 ·exact h
 split
 ·rcases List.eq_nil_or_concat ps with rfl | ⟨qs, q, hq⟩
  ·exact h
  ·rw [List.concat_eq_append] at hq
   subst hq
   simp only [List.getLast?_append, List.getLast?_singleton, Option.some_or, List.dropLast_concat]
   simp at h2
   exact ZT (h3 q (by simp)) (by omega) (fun p hp => h3 p (by simp [hp]))
 split
 ·rename_i hb
  simp only [Bool.and_eq_true] at hb
  refine ZT hb.2 ?_ ?_
  ·simp [Fg]; omega
  ·intro p hp
   have := List.mem_of_mem_drop hp
   simp at this
   rcases this with h4 | rfl
   ·exact h3 p h4
   ·exact h1
 ·exact h
theorem bdo (W T : Int) (cs : List Bool) (ds ls : List Int) (ps : List (List Int)) (k s w : Int) (hk : R2 W T cs ds ls ps) :
  ∃ (d : Bool) (W2 T2 : Int) (cs2 : List Bool) (ds2 ls2 : List Int) (ps2 : List (List Int)), SoundAt Tryz.prog EO [bkA W T cs ds ls ps, LK k s w] (.tup [bkO W2 T2 cs2 ds2 ls2 ps2, .v (.bool d)]) [.bot, .bot] ∧ R2 W2 T2 cs2 ds2 ls2 ps2 := by
 obtain ⟨a1, a2, a3, a4, a5⟩ := Ra hk
 have := Qk W T cs ds ls ps k s w (by omega) (by omega) (by omega) (by omega) (fun p hp => by have := a5 p hp; omega)
 cases hb : Bw W T cs ds ls ps with
 | true =>
   rw [hb] at this
   simp only [if_true] at this
   exact ⟨_, _, _, _, _, _, _, this, .inl (eP k s w hb)⟩
 | false =>
   rw [hb] at this
   exact ⟨_, _, _, _, _, _, _, this, .inr ⟨rfl, rfl, rfl, rfl⟩⟩
abbrev bw (i : Nat) (W T : Int) (cs : List Bool) (ds ls : List Int) (ps : List (List Int)) : List AV := [.v (.int .i64 W), .v (.int .i64 T), .ls 1 i 0 cs.length, .ls 1 (i + 1) 0 ds.length, .ls 1 (i + 2) 0 ls.length, .ls 1 (i + 3) 0 ps.length]
abbrev gq (bs : List Int) (q : Nat) (W T : Int) (cs : List Bool) (ds ls : List Int) (ps : List (List Int)) : AM :=
 [some (.box [.sl 0 1 (u8s bs), .v (.int .i64 q)]), some (.box [.v (.int .i64 0), .v (.int .i64 0), .os 1 [], .os 1 [], .os 1 [], .os 1 []]),
  some (.box (bw 3 W T cs ds ls ps)), some (.arr 1 (AD cs)), some (.arr 1 (AC ds)), some (.arr 1 (AC ls)), some (.arr 1 (oss ps))]
abbrev kh (n : Int) (i : Int) : ES := [(0, .lp 0 0 0 0), (1, .v (.int .i64 n)), (4, .lp 0 1 0 0), (7, .lp 0 2 0 0), (8, .v (.int .i64 i)), (64, .lp 0 0 0 0)]
set_option maxHeartbeats 20000000 in
theorem ki (bs : List Int) (p q : Nat) (n : Int) (m : Nat) (W T : Int) (cs : List Bool) (ds ls : List Int) (ps : List (List Int)) (hb : bs.length ≤ 2000) (hB : Byt bs) (hp : p < 2 ^ 34) (hm : m < 14) (hq : q ≤ p + 700) (hk : R2 W T cs ds ls ps) (Qc : AExit → ES → AM → Prop)
  (hend : ∀ (q2 : Nat) (W T : Int) (cs : List Bool) (ds ls : List Int) (ps : List (List Int)) (E : ES), q2 ≤ p + 850 → R2 W T cs ds ls ps → get E 0 = .lp 0 0 0 0 → get E 1 = .v (.int .i64 n) → get E 4 = .lp 0 1 0 0 → get E 7 = .lp 0 2 0 0 → get E 64 = .lp 0 0 0 0 → Qc (.exit 0) E (gq bs q2 W T cs ds ls ps)) :
  CH [] [0, 1, 4, 7, 8, 64] (awp Tryz.prog md8 ER) Qc (kh n m) (gq bs q W T cs ds ls ps) := by
 refine AH (fun b E H => ∃ (q2 : Nat) (W T : Int) (cs : List Bool) (ds ls : List Int) (ps : List (List Int)), b ≤ m ∧ q2 + b * 10 ≤ q + m * 10 ∧ R2 W T cs ds ls ps ∧ E = kh n b ∧ H = gq bs q2 W T cs ds ls ps) m ⟨q, W, T, cs, ds, ls, ps, Nat.le_refl _, Nat.le_refl _, hk, rfl, rfl⟩ ?_
 rintro J hJ b E H ⟨q2, W, T, cs, ds, ls, ps, hbm, hq2, hk, rfl, rfl⟩
 by_cases h0 : b = 0
 ·subst h0
  simp [ER]
  exact hend q2 W T cs ds ls ps _ (by omega) hk rfl rfl rfl rfl rfl
 obtain ⟨a1, a2, a3, a4, a5⟩ := Ra hk
 have h0' : 0 < b := by omega
 have ded := KO bs q2 W T cs ds ls ps hb hB (by omega) (by omega) (by omega) (by omega)
 have nx : ∀ (q3 : Nat) (W2 T2 : Int) (cs2 : List Bool) (ds2 ls2 : List Int) (ps2 : List (List Int)), q3 ≤ q2 + 10 → R2 W2 T2 cs2 ds2 ls2 ps2 → Cx J b (kh n ((b : Int) - 1)) (gq bs q3 W2 T2 cs2 ds2 ls2 ps2) := by
  intro q3 W2 T2 cs2 ds2 ls2 ps2 h1 h2
  refine ⟨b - 1, by omega, hJ _ _ _ ⟨q3, W2, T2, cs2, ds2, ls2, ps2, by omega, by omega, h2, ?_, rfl⟩⟩
  rw [show ((b - 1 : Nat) : Int) = (b : Int) - 1 by omega]
 simp [ER, h0']
 repeat' first
  | omega
  | apply And.intro
  | (refine AE ded [0] ?_ ?_ ?_ ?_
     ·simp
     ·simp
     ·simp
     rintro _ _ ⟨k, s, w, q3, k0, k1, s0, s1, w0, w1, hq3, rfl, rfl⟩
     obtain ⟨d, W2, T2, cs2, ds2, l2, p2, hS, hk2⟩ := bdo W T cs ds ls ps k s w hk
     simp)
  | (refine AA hS ?_
     cases d with
     | false =>
       simp
       exact ⟨by omega, nx q3 W T cs ds ls ps hq3 hk⟩
     | true =>
       simp
       exact ⟨by omega, nx q3 W2 T2 cs2 ds2 l2 p2 hq3 hk2⟩)
theorem VW (xs ys : List Int) (ha : xs.length < 2 ^ 40) :
  SoundAt Tryz.prog GO [.sl 1 1 (AC xs), .sl 1 1 (AC ys)] (.v (.bool (decide (xs = ys)))) [.bot, .bot] := by
 refine AJ (md := md0) (ms := [false, false]) MV (by simp) ?_
 simp [GQ]
 refine ⟨fun h => ?_, fun hl => ?_⟩
 ·intro e; subst e; exact h rfl
 refine AH (fun m E H => ∃ i : Nat, m = xs.length - i ∧ i ≤ xs.length ∧ xs.take i = ys.take i ∧ H = [] ∧ E = [(0, .sl 1 1 (AC xs)), (1, .sl 1 1 (AC ys)), (12, .v (.int .i64 xs.length)), (13, .v (.int .i64 i))]) xs.length ⟨0, by simp⟩ ?_
 rintro J hJ m E H ⟨i, rfl, hi, he, rfl, rfl⟩
 by_cases h : i < xs.length
 case neg =>
  have h1 : i = xs.length := by omega
  subst h1
  have e : xs = ys := by
   rw [List.take_length] at he
   rw [he]; exact List.take_of_length_le (by omega)
  simp [BV, e]
 have h2 : i < ys.length := by omega
 have key : (ati xs i = ati ys i) → xs.take (i + 1) = ys.take (i + 1) := by
  intro e
  rw [List.take_succ_eq_append_getElem h, List.take_succ_eq_append_getElem (by omega), he]
  simp [ati, h, h2] at e
  rw [e]
 have key2 : ¬ (ati xs i = ati ys i) → ¬ xs = ys := fun e e2 => e (by rw [e2])
 by_cases e : ati xs i = ati ys i
 ·simp [BV, h, h2, e]
  exact ⟨by omega, _, by omega, hJ _ _ _ ⟨i + 1, rfl, h, key e, rfl, rfl⟩⟩
 ·simp [BV, h, h2, e, key2 e]
abbrev cpH (W T : Int) (cs : List Bool) (ds ls : List Int) (qs : List (List Int)) : AM :=
 [some (.box [.v (.int .i64 0), .v (.int .i64 0), .os 1 [], .os 1 [], .os 1 [], .os 1 []]), some (.box (bw 2 W T cs ds ls qs)),
  some (.arr 1 (AD cs)), some (.arr 1 (AC ds)), some (.arr 1 (AC ls)), some (.arr 1 (oss qs))]
def cpP (ps : List (List Int)) (i : Nat) : List (List Int) := ps.take i ++ List.replicate (ps.length - i) []
theorem Rb (ps : List (List Int)) {i : Nat} (h : i ≤ ps.length) : (cpP ps i).length = ps.length := by simp [cpP]; omega
theorem kj (ps : List (List Int)) {i : Nat} (h : i < ps.length) : (oss (cpP ps i)).set i (.os 1 (AC (pti ps i))) = oss (cpP ps (i + 1)) := by
 unfold oss
 rw [← List.map_set]
 congr 1
 unfold cpP
 rw [List.set_append_right _ _ (by simp; omega), show i - (ps.take i).length = 0 by simp; omega, show ps.length - i = (ps.length - (i + 1)) + 1 by omega, List.replicate_succ, List.set_cons_zero,
  Mx h]
 have e : ps.take (i + 1) = ps.take i ++ [ps[i]] := List.take_succ_eq_append_getElem h
 rw [e, List.append_assoc]; rfl
theorem pS (W T : Int) (cs : List Bool) (ds ls : List Int) (ps : List (List Int)) (hb : ps.length ≤ 100) (hp : ∀ p ∈ ps, p.length ≤ 100) (Qc : AExit → ES → AM → Prop)
  (hend : ∀ E : ES, get E 2 = .lp 0 0 0 0 → get E 3 = .lp 0 1 0 0 → Qc (.exit 0) E (cpH W T cs ds ls ps)) :
  CH [(29, 1)] [2, 3, 29, 30, 31] (awp Tryz.prog mdo CW) Qc [(2, .lp 0 0 0 0), (3, .lp 0 1 0 0), (29, .sl 1 1 (sls 1 ps)), (30, .v (.int .i64 ps.length)), (31, .v (.int .i64 0))] (cpH W T cs ds ls (cpP ps 0)) := by
 refine AH (fun m E H => ∃ i : Nat, m = ps.length - i ∧ i ≤ ps.length ∧ E = [(2, .lp 0 0 0 0), (3, .lp 0 1 0 0), (29, .sl 1 1 (sls 1 ps)), (30, .v (.int .i64 ps.length)), (31, .v (.int .i64 i))] ∧ H = cpH W T cs ds ls (cpP ps i)) ps.length ⟨0, by simp⟩ ?_
 rintro J hJ m E H ⟨i, rfl, hi, rfl, rfl⟩
 have hl := Rb ps hi
 by_cases h : i < ps.length
 case neg =>
  have h1 : i = ps.length := by omega
  subst h1
  have e : cpP ps ps.length = ps := by simp [cpP]
  simp [CW]
  rw [e]
  exact hend _ rfl rfl
 have hpi : (pti ps i).length ≤ 100 := by rw [Mx h]; exact hp _ (List.getElem_mem h)
 have hset := kj ps h
 have hl2 := Rb ps (show i + 1 ≤ ps.length by omega)
 have nx := hJ (ps.length - (i + 1)) _ _ ⟨i + 1, rfl, h, rfl, rfl⟩
 simp only [cpH, bw, hl2, ← hset, Int.natCast_add, Int.natCast_one] at nx
 simp [CW, h]
 (repeat' first | omega | apply And.intro) <;>
 ·refine AA (Ak (pti ps i) (by omega)) ?_
  simp [h, hl]
  exact ⟨by omega, _, by omega, nx⟩
set_option maxHeartbeats 8000000 in
theorem Jv (W T : Int) (cs : List Bool) (ds ls : List Int) (ps : List (List Int)) (hc : cs.length ≤ 100) (hd : ds.length ≤ 100) (hl : ls.length ≤ 100) (hb : ps.length ≤ 100) (hp : ∀ p ∈ ps, p.length ≤ 100) :
  SoundAt Tryz.prog Jt [bkA W T cs ds ls ps] (bkO W T cs ds ls ps) [.bot] := by
 refine Vv (md := mdo) (ms := [false]) Qf (by simp) ?_
 have t1 : (AC ds).take ds.length = AC ds := AG ds
 have t2 : (AC ls).take ls.length = AC ls := AG ls
 have t3 : (oss ps).take ps.length = oss ps := List.take_of_length_le (by simp [oss])
 have e0 : List.replicate ps.length (AV.os 1 []) = oss (cpP ps 0) := by simp [cpP, oss]
 have hl0 : (cpP ps 0).length = ps.length := Rb ps (by omega)
 have lp := pS W T cs ds ls ps hb hp
 simp only [cpH, bw, hl0, ← e0] at lp
 simp [Hm]
 refine Vw rfl rfl rfl ?_
 simp
 (repeat' first | omega | apply And.intro) <;>
 ·refine AA (RY cs (by omega)) ?_
  simp
  (repeat' first | omega | apply And.intro) <;>
  ·refine AA (Ak ds (by omega)) ?_
   simp
   (repeat' first | omega | apply And.intro) <;>
   ·refine AA (Ak ls (by omega)) ?_
    simp [HM]
    (repeat' first | omega | apply And.intro) <;>
    ·refine lp _ ?_
     intro E e2 e3
     simp [e2, e3, t1, t2, t3]
theorem eQ {W T : Int} {cs : List Bool} {ds ls : List Int} {k s w : Int} (hf : Ah W T cs ds ls = true) (hk : k = 0 ∨ k = 1 ∨ k = 2 ∨ k = 3) : AU W T cs (HY W T cs ds ls k s w) = true := by
 obtain ⟨hr, hd, hy, ho⟩ := Aw hf
 unfold HY
 split
 ·unfold Av
  split
  ·rename_i h; exact KW hr hy h
  ·exact hy
 split
 ·split
  ·rename_i h
   simp only [Ei, decide_eq_true_eq] at h
   have := dg (k := s.toNat) hr hy (by omega) (by rw [show ((s.toNat : Nat) : Int) = s by omega]; exact h.2.2)
   rw [show ((s.toNat : Nat) : Int) = s by omega] at this
   exact this
  ·exact hy
 split
 ·by_cases hfl : F8 W T ls s = true
  ·exact (d8 hr hy hfl).2
  ·have e : HX W T ls s = ls := by simp [HX, hfl]
   rw [e]; exact hy
 split
 ·exact (Aw (OI hf).1).2.2.1
 ·omega
theorem KP (W T : Int) (cs : List Bool) (ds ls : List Int) (ps : List (List Int)) (k s w : Int) (h : Bw W T cs ds ls ps = true) (hs : s ≤ 9223372036854775807) :
  SoundAt Tryz.prog BT [Nr W T cs ds ls ps, LK k s w] (.v (.bool (doI W T cs ds ls ps k s w).1)) [Nr W T cs ds (doI W T cs ds ls ps k s w).2.1 (doI W T cs ds ls ps k s w).2.2, .bot] := by
 obtain ⟨hf, h20, hpf⟩ := A6 h
 obtain ⟨hr, hdg, hy, ho⟩ := Aw hf
 obtain ⟨l36, ld, ll⟩ := CD hf
 have hnl := R0 W T cs ds ls k s w
 unfold doI
 refine dP VM W T cs ds ls (HY W T cs ds ls k s w) ps k s w (XO (k, s, w)) (RZ W T cs ds ls k s w) (Ah W T cs ds (HY W T cs ds ls k s w)) (by omega) (by omega) (by omega) (RW (k, s, w)) ?_ ?_ (fun us h1 h2 => Sc us h1 h2)
 ·intro hn hk4
  have hk : k = 0 ∨ k = 1 ∨ k = 2 ∨ k = 3 := by have := Nu hn; omega
  have h0 := XI W T cs ls s w (by omega) (by omega)
  have h1 := VD W T cs ls s (by omega) (by omega)
  have h2 := Qg W T cs ls s hr ll hs
  have h3 := MQ W T cs ds ls hf
  have h4 := VW (A9 W T cs ds ls) ls (by rw [MC]; omega)
  have := W1 Qd W T cs ds ls _ _ _ _ ps k s w _ _ _ _ h0 h1 h2 h3 h4
  have e : SK k (kV W T cs ls s w) (SX W T cs ls s) (HX W T ls s) (A9 W T cs ds ls) (ZM W T cs ls s w) (L4 W T cs ls s) (F8 W T ls s) (!decide (A9 W T cs ds ls = ls)) =
    (HY W T cs ds ls k s w, RZ W T cs ds ls k s w) := by
   rcases hk with rfl | rfl | rfl | rfl
   ·simp [SK, HY, RZ, kV, ZM, hr, hy]
   ·simp [SK, HY, RZ, SX, L4, hr, hy]
   ·simp [SK, HY, RZ]
   ·simp [SK, HY, RZ]
  rw [e] at this
  exact this
 ·intro hn hk4
  have hk : k = 0 ∨ k = 1 ∨ k = 2 ∨ k = 3 := by have := Nu hn; omega
  have hy2 := eQ (s := s) (w := w) hf hk
  have hok : okB W T cs ds (HY W T cs ds ls k s w) = true := by simp [okB, hr, hdg, hy2]
  have e : Ah W T cs ds (HY W T cs ds ls k s w) = J9 (BZ W T ds (HY W T cs ds ls k s w)) := by simp [Ah, hok]
  rw [e]
  exact Df W T cs ds _ hok
@[simp] abbrev ME : Nat := 138
def DK : ACode := .seq (.seq (.reg [.m 11 5, .m 12 0, .n 13 12, .o 14 (.bin .lss 0) [.t 11, .t 13]]) <| .cond (.t 14) ( .skip) ( .exit 0)) <| .seq (.block 1 ( .seq (.draw ( .take (.m 17 0) <| .take (.m 18 5) <| .take (.o 19 (.iadr 1) [.t 17, .t 18]) <| .take (.m 21 1) <| .take (.m 22 5) <| .take (.o 23 (.iadr 1) [.t 21, .t 22]) <| .alt (.l 20 19) ( .al (.l 24 23) ( .take (.o 25 (.bin .neq 2) [.t 20, .t 24]) <| .done)) <| .al (.l 24 23) ( .al (.l 20 19) ( .take (.o 25 (.bin .neq 2) [.t 20, .t 24]) <| .done)))) <| .cond (.t 25) ( .seq (.reg [.o 4 .mv [.kb false]]) <| .ret) ( .skip))) <| .reg [.m 15 5, .o 16 (.bin .add 0) [.t 15, .k 1], .m 5 16]
def MF : ACode := .seq (.reg [.o 4 .mv [.kb false]]) <| .seq (.seq (.reg [.m 6 0, .n 7 6, .m 8 1, .n 9 8, .o 10 (.bin .neq 0) [.t 7, .t 9]]) <| .cond (.t 10) ( .seq (.reg [.o 4 .mv [.kb false]]) <| .ret) ( .skip)) <| .seq (.seq (.reg [.o 5 .mv [.k 0]]) <| .block 0 ( .loop [(0, 1), (1, 1)] [0, 1, 5] DK)) <| .seq (.reg [.o 4 .mv [.kb true]]) <| .ret
theorem Sg : cFn Tryz.prog ME 26 [.t 4] MF := ⟨Tryz.f138, _, Tryz.func138, rfl, by kernel_rfl, by kernel_rfl, by kernel_rfl, by kernel_rfl⟩
@[simp] abbrev K6 : Nat := 66
def ET : ACode := .seq (.reg [.o 2 .box [.t 0], .o 3 .box [.t 1], .o 4 .mv [.kb false]]) <| .seq (.reg [.f 5 0 2, .l 6 5, .f 7 0 3, .l 8 7, .o 9 (.bin .eql 0) [.t 6, .t 8], .m 10 9, .fg 11 1 2 10 true, .lg 12 11 10 true, .fg 13 1 3 10 true, .lg 14 13 10 true, .g 15 (.bin .eql 0) [.t 12, .t 14] 10 true, .o 16 .pick [.t 10, .t 15, .kb false], .m 17 16, .fg 18 2 2 17 true, .lg 19 18 17 true, .fg 20 2 3 17 true, .lg 21 20 17 true, .g 22 (.call 138 []) [.t 19, .t 21] 17 true, .o 23 .pick [.t 17, .t 22, .kb false], .m 4 23]) <| .ret
theorem Rc : cFn Tryz.prog K6 24 [.t 4] ET := ⟨Tryz.f66, _, Tryz.func66, rfl, by kernel_rfl, by kernel_rfl, by kernel_rfl, by kernel_rfl⟩
@[simp] abbrev NR : Nat := 22
def NS : ACode := .seq (.reg [.o 2 .box [.t 0], .o 3 .box [.t 1], .o 4 .mv [.kb false]]) <| .seq (.reg [.f 5 0 2, .la 6 3 5, .f 7 0 3, .la 8 3 7, .o 9 (.call 66 []) [.t 6, .t 8], .m 10 9, .fg 11 3 2 10 true, .lg 12 11 10 true, .fg 13 3 3 10 true, .lg 14 13 10 true, .g 15 (.call 67 []) [.t 12, .t 14] 10 true, .o 16 .pick [.t 10, .t 15, .kb false], .m 17 16, .fg 18 4 2 17 true, .lg 19 18 17 true, .fg 20 4 3 17 true, .lg 21 20 17 true, .g 22 (.call 67 []) [.t 19, .t 21] 17 true, .o 23 .pick [.t 17, .t 22, .kb false], .m 24 23, .fg 25 5 2 24 true, .lg 26 25 24 true, .fg 27 5 3 24 true, .lg 28 27 24 true, .g 29 (.call 68 []) [.t 26, .t 28] 24 true, .o 30 .pick [.t 24, .t 29, .kb false], .m 4 30]) <| .ret
theorem UQ : cFn Tryz.prog NR 31 [.t 4] NS := ⟨Tryz.f22, _, Tryz.func22, rfl, by kernel_rfl, by kernel_rfl, by kernel_rfl, by kernel_rfl⟩
end Go.Proofs.Dev
