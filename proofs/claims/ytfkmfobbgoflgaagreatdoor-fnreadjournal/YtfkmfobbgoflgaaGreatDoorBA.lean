/- Contracts of the functions of the program over slots and rows, each proved against the program itself; no condition beyond those that each theorem names. -/
import Derived.Test.YtfkmfobbgoflgaaGreatDoorAZ
import Derived.Test.YtfkmfobbgoflgaaGreatDoorProg
import Derived.Test.YtfkmfobbgoflgaaGreatDoorAW
import Derived.Test.YtfkmfobbgoflgaaGreatDoorAO
import Derived.Test.YtfkmfobbgoflgaaGreatDoorAY
import Derived.Test.YtfkmfobbgoflgaaGreatDoorAJ
import Derived.Test.YtfkmfobbgoflgaaGreatDoorAX
import Derived.Shelf.Strings.OnBuilder
import Derived.Test.YtfkmfobbgoflgaaGreatDoorAR
import Derived.Test.YtfkmfobbgoflgaaGreatDoorAI
set_option linter.unusedSimpArgs false
set_option linter.unusedVariables false
set_option maxRecDepth 100000
namespace Go.Proofs.Dev
@[simp] abbrev Jz : Nat := 11
def CY : ACode := .seq (.seq (.reg [.m 5 4, .m 6 0, .n 7 6, .o 8 (.bin .lss 0) [.t 5, .t 7]]) <| .cond (.t 8) ( .skip) ( .exit 0)) <| .seq (.block 1 ( .seq (.seq (.reg [.m 11 0, .m 12 4, .o 13 (.iadr 3) [.t 11, .t 12], .la 14 3 13, .o 15 (.call 48 []) [.t 14], .o 16 (.bin .eql 1) [.t 15, .c (.v (.string ⟨#[]⟩))]]) <| .cond (.t 16) ( .seq (.reg [.o 2 .mv [.c (.v (.string ⟨#[]⟩))]]) <| .ret) ( .skip)) <| .reg [.m 17 3, .m 18 0, .m 19 4, .o 20 (.iadr 3) [.t 18, .t 19], .la 21 3 20, .o 22 (.call 48 []) [.t 21], .o 23 (.bin .add 1) [.t 17, .t 22], .o 24 (.bin .add 1) [.t 23, .c (.v (.string ⟨#[10]⟩))], .m 3 24])) <| .reg [.m 9 4, .o 10 (.bin .add 0) [.t 9, .k 1], .m 4 10]
def J0 : ACode := .seq (.reg [.o 2 .mv [.c (.v (.string ⟨#[]⟩))]]) <| .seq (.reg [.o 3 .mv [.c (.v (.string ⟨#[]⟩))]]) <| .seq (.seq (.reg [.o 4 .mv [.k 0]]) <| .block 0 ( .loop [(0, 3)] [0, 3, 4] CY)) <| .seq (.reg [.m 25 3, .m 2 25]) <| .ret
theorem Qq : cFn Tryz.prog Jz 26 [.t 2] J0 := ⟨Tryz.f11, _, Tryz.func11, rfl, by kernel_rfl, by kernel_rfl, by kernel_rfl, by kernel_rfl⟩
@[simp] abbrev Gs : Nat := 44
def Ck : ACode := .seq (.seq (.reg [.m 11 5, .m 12 4, .n 13 12, .o 14 (.bin .lss 0) [.t 11, .t 13]]) <| .cond (.t 14) ( .skip) ( .exit 0)) <| .seq (.block 1 ( .seq (.reg [.m 17 4, .m 18 5, .o 19 (.iadr 3) [.t 17, .t 18], .la 20 3 19, .o 21 (.call 48 []) [.t 20], .o 22 (.bin .neq 1) [.t 21, .c (.v (.string ⟨#[]⟩))]]) <| .cond (.t 22) ( .reg [.m 23 3, .m 24 4, .m 25 5, .o 26 (.iadr 3) [.t 24, .t 25], .la 27 3 26, .o 28 (.bsl 3) [.t 27], .o 29 (.app 3 24 true) [.t 23, .t 28], .m 3 29]) ( .skip))) <| .reg [.m 15 5, .o 16 (.bin .add 0) [.t 15, .k 1], .m 5 16]
def K9 : ACode := .seq (.reg [.o 2 .mv [.c (.os 3 [])]]) <| .seq (.reg [.o 6 (.bsl 3) [], .m 3 6]) <| .seq (.reg [.m 7 0, .m 8 0, .o 9 (.call 57 []) [.t 8, .k 0], .o 10 (.call 58 []) [.t 7, .t 9], .m 4 10]) <| .seq (.seq (.reg [.o 5 .mv [.k 0]]) <| .block 0 ( .loop [(3, 3), (4, 3)] [3, 4, 5, 31] Ck)) <| .seq (.reg [.m 30 3, .m 2 30]) <| .ret
theorem Rh : cFn Tryz.prog Gs 31 [.t 2] K9 := ⟨Tryz.f44, _, Tryz.func44, rfl, by kernel_rfl, by kernel_rfl, by kernel_rfl, by kernel_rfl⟩
@[simp] abbrev MX : Nat := 9
theorem pw (W T : Int) (cs : List Bool) (ds ls : List Int) (ps : List (List Int)) (k s w : Int) (hc : cs.length ≤ 40) (hd : ds.length ≤ 40) (hl : ls.length ≤ 40) (hb : ps.length ≤ 40) (hp : ∀ p ∈ ps, p.length ≤ 40) :
  ∃ (d : Bool) (W2 T2 : Int) (cs2 : List Bool) (ds2 ls2 : List Int) (ps2 : List (List Int)), SoundAt Tryz.prog EO [bkA W T cs ds ls ps, LK k s w] (.tup [bkO W2 T2 cs2 ds2 ls2 ps2, .v (.bool d)]) [.bot, .bot] ∧ (d = true → Bw W2 T2 cs2 ds2 ls2 ps2 = true) := by
 have := Qk W T cs ds ls ps k s w hc hd hl hb hp
 cases hv : Bw W T cs ds ls ps with
 | true =>
   rw [hv] at this
   simp only [if_true] at this
   exact ⟨_, _, _, _, _, _, _, this, fun _ => eP k s w hv⟩
 | false =>
   rw [hv] at this
   simp only [Bool.false_eq_true, if_false, Bool.false_and] at this
   exact ⟨false, _, _, _, _, _, _, this, fun h => by cases h⟩
def hO (bs : List Int) (p d : Nat) (r : AV) (ups : List AV) : Prop := ∃ (xs : List Tu) (q : Nat), xs.length ≤ 12 ∧ (∀ x ∈ xs, x.2.1 ≤ 200) ∧ q ≤ p + d ∧ r = .os 3 (dsA xs) ∧ ups = [rdA bs q, .bot]
abbrev pf (bs : List Int) (q : Nat) (xs : List Tu) (W T : Int) (cs : List Bool) (ds ls : List Int) (ps : List (List Int)) : AM :=
 [some (.box [.sl 0 1 (u8s bs), .v (.int .i64 q)]), some (.arr 3 (dsA xs)), some (.box [.v (.int .i64 W), .v (.int .i64 T), .sl 1 1 (AD cs), .sl 1 1 (AC ds), .sl 1 1 (AC ls), .sl 1 1 (sls 1 ps)])]
abbrev qC (bs : List Int) (q : Nat) (xs : List Tu) (W T : Int) (cs : List Bool) (ds ls : List Int) (ps : List (List Int)) : AM :=
 [some (.box [.sl 0 1 (u8s bs), .v (.int .i64 q)]), some (.arr 3 (dsA xs)), some (.box (bw 3 W T cs ds ls ps)), some (.arr 1 (AD cs)), some (.arr 1 (AC ds)), some (.arr 1 (AC ls)), some (.arr 1 (oss ps))]
abbrev dsE (n : Nat) (i : Int) : ES := [(0, .lp 0 0 0 0), (5, .ls 3 1 0 n), (6, .lp 0 2 0 0), (7, .v (.int .i64 i)), (35, .lp 0 0 0 0)]
set_option maxHeartbeats 4000000 in
theorem Ni (bs : List Int) (p : Nat) (W T : Int) (cs : List Bool) (ds ls : List Int) (ps : List (List Int)) (hb : bs.length ≤ 2000) (hB : Byt bs) (hp : p < 2 ^ 34) (hc : cs.length ≤ 40) (hd : ds.length ≤ 40) (hl : ls.length ≤ 40) (hps : ps.length ≤ 40) (hpp : ∀ p ∈ ps, p.length ≤ 40) :
  SoundSet Tryz.prog Iu [rdA bs p, bkA W T cs ds ls ps] (hO bs p 200) := by
 refine Hb (md := md8) (ms := [true, false]) UN (by simp) ?_
 simp [NQ]
 refine AE (AB bs p 12 hb hB (by omega)) [0] (by simp) (by simp) (by simp) ?_
 rintro _ _ ⟨x, x0, x1, rfl, rfl⟩
 obtain ⟨m, rfl⟩ : ∃ m : Nat, x = m := ⟨x.toNat, by omega⟩
 simp
 refine AH (fun b E H => ∃ (q : Nat) (xs : List Tu), b ≤ m ∧ q + b * 10 ≤ p + 1 + m * 10 ∧ xs.length + b = m ∧ (∀ x ∈ xs, x.2.1 ≤ 200) ∧ E = dsE xs.length b ∧
  (H = pf bs q xs W T cs ds ls ps ∨ ∃ (W2 T2 : Int) (cs2 : List Bool) (ds2 ls2 : List Int) (ps2 : List (List Int)), Bw W2 T2 cs2 ds2 ls2 ps2 = true ∧ H = qC bs q xs W2 T2 cs2 ds2 ls2 ps2)) m
  ⟨p + 1, [], Nat.le_refl _, Nat.le_refl _, by simp, by simp, by simp, .inl (by simp)⟩ ?_
 rintro J hJ b E H ⟨q, xs, hbm, hq, hxl, hxs, rfl, hH⟩
 have tk : (dsA xs).take xs.length = dsA xs := List.take_of_length_le (by simp)
 by_cases h0 : b = 0
 ·subst h0
  rcases hH with rfl | ⟨W2, T2, cs2, ds2, ls2, ps2, _, rfl⟩ <;>
  ·simp [Ds]
   refine ⟨_, _, ⟨xs, q, by omega, hxs, by omega, rfl, rfl⟩, ?_⟩
   simp [tk]
 have h0' : 0 < b := by omega
 have eb : ((b - 1 : Nat) : Int) = (b : Int) - 1 := by omega
 have ap : ∀ d : Tu, dsA xs ++ [Ag d] = dsA (xs ++ [d]) := fun d => by simp [dsA]
 rcases hH with rfl | ⟨W2, T2, cs2, ds2, ls2, ps2, hv, rfl⟩
 ·have ded := KO bs q W T cs ds ls ps hb hB (by omega) hc hd hl
  simp [Ds, h0']
  refine AE ded [0] (by simp) (by simp) (by simp) ?_
  rintro _ _ ⟨k, s, w, q3, k0, k1, s0, s1, w0, w1, hq3, rfl, rfl⟩
  obtain ⟨d, W3, T3, cs3, ds3, l3, p3, hS, hk3⟩ := pw W T cs ds ls ps k s w hc hd hl hps hpp
  have ap2 := ap (k, s, w)
  simp only [Ag] at ap2
  simp
  refine AA hS ?_
  cases d with
  | false =>
    simp [ap2]
    exact ⟨by omega, by omega, b - 1, by omega, hJ _ _ _ ⟨q3, xs ++ [(k, s, w)], by omega, by omega, by simp; omega, by intro x hx; simp at hx; rcases hx with h | rfl; exact hxs x h; exact s1, by simp [eb], .inl rfl⟩⟩
  | true =>
    simp [ap2]
    exact ⟨by omega, by omega, b - 1, by omega, hJ _ _ _ ⟨q3, xs ++ [(k, s, w)], by omega, by omega, by simp; omega, by intro x hx; simp at hx; rcases hx with h | rfl; exact hxs x h; exact s1, by simp [eb], .inr ⟨W3, T3, cs3, ds3, l3, p3, hk3 rfl, rfl⟩⟩⟩
 ·obtain ⟨hf, h20, hpf⟩ := A6 hv
  have fl := CD hf
  have ded := KO bs q W2 T2 cs2 ds2 ls2 ps2 hb hB (by omega) (by omega) (by omega) (by omega)
  simp [Ds, h0']
  refine AE ded [0] (by simp) (by simp) (by simp) ?_
  rintro _ _ ⟨k, s, w, q3, k0, k1, s0, s1, w0, w1, hq3, rfl, rfl⟩
  obtain ⟨d, W3, T3, cs3, ds3, l3, p3, hS, hk3⟩ := pw W2 T2 cs2 ds2 ls2 ps2 k s w (by omega) (by omega) (by omega) (by omega) (fun p hp => by have := CD (hpf p hp); omega)
  have ap2 := ap (k, s, w)
  simp only [Ag] at ap2
  simp
  refine AA hS ?_
  cases d with
  | false =>
    simp [ap2]
    exact ⟨by omega, by omega, b - 1, by omega, hJ _ _ _ ⟨q3, xs ++ [(k, s, w)], by omega, by omega, by simp; omega, by intro x hx; simp at hx; rcases hx with h | rfl; exact hxs x h; exact s1, by simp [eb], .inr ⟨W2, T2, cs2, ds2, ls2, ps2, hv, rfl⟩⟩⟩
  | true =>
    simp [ap2]
    exact ⟨by omega, by omega, b - 1, by omega, hJ _ _ _ ⟨q3, xs ++ [(k, s, w)], by omega, by omega, by simp; omega, by intro x hx; simp at hx; rcases hx with h | rfl; exact hxs x h; exact s1, by simp [eb], .inr ⟨W3, T3, cs3, ds3, l3, p3, hk3 rfl, rfl⟩⟩⟩
def na (r : AV) (ups : List AV) : Prop := ∃ (W T : Int) (cs : List Bool) (ds ls : List Int) (ps : List (List Int)) (xs : List Tu), cs.length ≤ 37 ∧ ds.length ≤ 38 ∧ ls.length ≤ 38 ∧ ps.length ≤ 21 ∧ (∀ x ∈ ps, x.length ≤ 37) ∧ xs.length ≤ 41 ∧ (∀ x ∈ xs, x.2.1 ≤ 200) ∧
 r = .tup [bkO W T cs ds ls ps, .os 3 (dsA xs)] ∧ ups = [.bot]
theorem Qr (bs : List Int) (hb : bs.length ≤ 2 ^ 60) (hB : Byt bs) : SoundSet Tryz.prog Fy [.sl 0 1 (u8s bs)] na := by
 refine Hb (md := md8) (ms := [false]) Ql (by simp) ?_
 simp [Ju]
 refine AA (OP bs hb) ?_
 simp
 refine AE (Oe (bs.take 2000) 0 12 (by simp; omega) (St hB 2000) (by omega) (by omega) (by omega)) [1] (by simp) (by simp) (by simp) ?_
 rintro _ _ ⟨W, T, cs, ds, ls, ps, q, h1, h2, h3, h4, h5, hq, rfl, rfl⟩
 have t1 : (oss ps).take ps.length = oss ps := List.take_of_length_le (by simp [oss])
 simp
 refine AE (CF (bs.take 2000) q 30 (by simp; omega) (St hB 2000) (by omega) (by omega)) [1] (by simp) (by simp) (by simp) ?_
 rintro _ _ ⟨o, q2, rfl, hq2, rfl⟩
 cases o with
 | true =>
   obtain ⟨ys, hy⟩ : ∃ ys : List Tu, ys = List.replicate 41 (0, 0, 0) := ⟨_, rfl⟩
   have er : List.replicate 41 (AV.agg [.v (.int .i64 0), .v (.int .i64 0), .v (.int .i64 0)]) = dsA ys := by rw [hy]; simp [dsA, Ag]
   have yl : ys.length = 41 := by rw [hy]; rfl
   have tk : (dsA ys).take 41 = dsA ys := List.take_of_length_le (by simp [yl])
   have y2 : ∀ x ∈ ys, x.2.1 ≤ 200 := by intro x hx; rw [hy] at hx; obtain rfl := List.eq_of_mem_replicate hx; decide
   clear hy
   simp [er]
   (repeat' first | omega | apply And.intro) <;>
   ·refine ⟨_, _, ⟨W, T, cs, ds, ls, ps, ys, h1, h2, h3, h4, h5, by omega, y2, rfl, rfl⟩, ?_⟩
    simp [t1, tk, yl]
 | false =>
   have ded := Ni (bs.take 2000) q2 W T cs ds ls ps (by simp; omega) (St hB 2000) (by omega) (by omega) (by omega) (by omega) (by omega) (fun p hp => by have := h5 p hp; omega)
   simp [HN]
   (repeat' first | omega | apply And.intro) <;>
   ·refine AE ded [1] (by simp) (by simp) (by simp) ?_
    rintro _ _ ⟨xs, q3, x1, x2, _, rfl, rfl⟩
    have tk : (dsA xs).take xs.length = dsA xs := List.take_of_length_le (by simp)
    simp
    refine ⟨_, _, ⟨W, T, cs, ds, ls, ps, xs, h1, h2, h3, h4, h5, by omega, x2, rfl, rfl⟩, ?_⟩
    simp [t1, tk]
@[simp] abbrev J1 : Nat := 16
def Bd : ACode := .seq (.seq (.reg [.m 10 6, .m 11 0, .o 12 (.len true) [.t 11], .o 13 (.bin .lss 0) [.t 10, .t 12]]) <| .cond (.t 13) ( .skip) ( .exit 0)) <| .seq (.block 1 ( .seq (.reg [.m 16 0, .m 17 6, .o 18 .sidx [.t 16, .t 17], .o 19 (.bin .eql 0) [.t 18, .c (.v (.int .u8 (10)))]]) <| .cond (.t 19) ( .seq (.reg [.m 21 0, .m 22 5, .m 23 6, .o 24 (.sslice true true) [.t 21, .t 22, .t 23], .o 25 (.call 56 []) [.t 24], .m 20 25, .e 26 0 20, .e 27 1 20, .o 7 (.alloc dz) [], .s (.store 3) [.t 7, .t 26], .m 8 27]) <| .seq (.seq (.reg [.m 28 8, .o 29 (.un .not) [.t 28]]) <| .cond (.t 29) ( .seq (.reg [.m 30 4, .m 31 5, .m 2 30, .m 3 31]) <| .ret) ( .skip)) <| .seq (.reg [.m 32 4, .la 33 3 7, .o 34 (.bsl 3) [.t 33], .o 35 (.app 3 24 true) [.t 32, .t 34], .m 4 35]) <| .reg [.m 36 6, .o 37 (.bin .add 0) [.t 36, .k 1], .m 5 37]) ( .skip))) <| .reg [.m 14 6, .o 15 (.bin .add 0) [.t 14, .k 1], .m 6 15]
def J3 : ACode := .seq (.reg [.o 2 .mv [.c (.os 3 [])], .o 3 .mv [.k 0]]) <| .seq (.reg [.o 9 (.bsl 3) [], .m 4 9]) <| .seq (.reg [.o 5 .mv [.k 0]]) <| .seq (.seq (.reg [.o 6 .mv [.k 0]]) <| .block 0 ( .loop [(4, 3)] [0, 4, 5, 6] Bd)) <| .seq (.reg [.m 38 4, .m 39 5, .m 2 38, .m 3 39]) <| .ret
theorem Qs : cFn Tryz.prog J1 40 [.t 2, .t 3] J3 := ⟨Tryz.f16, _, Tryz.func16, rfl, by kernel_rfl, by kernel_rfl, by kernel_rfl, by kernel_rfl⟩
@[simp] abbrev J4 : Nat := 13
def CZ : ACode := .block 1 ( .seq (.reg [.m 12 0, .m 13 5, .o 14 (.sslice true false) [.t 12, .t 13], .o 15 (.call 51 []) [.t 14, .c (.v (.string ⟨#[10]⟩))], .m 11 15, .e 16 0 11, .e 17 1 11, .e 18 2 11, .m 6 16, .m 7 17, .m 8 18]) <| .seq (.reg [.m 20 6, .o 21 (.call 52 []) [.t 20], .m 19 21, .e 22 0 19, .e 23 1 19, .o 9 (.alloc dz) [], .s (.store 3) [.t 9, .t 22], .m 10 23]) <| .seq (.seq (.reg [.m 24 8, .o 25 (.un .not) [.t 24], .m 26 25, .mg 27 10 26 false, .g 28 (.un .not) [.t 27] 26 false, .o 29 .pick [.t 26, .kb true, .t 28]]) <| .cond (.t 29) ( .seq (.reg [.m 30 4, .o 31 (.call 53 []) [.t 30], .m 32 5, .m 2 31, .m 3 32]) <| .ret) ( .skip)) <| .seq (.reg [.m 33 4, .la 34 3 9, .o 35 (.bsl 3) [.t 34], .o 36 (.app 3 24 true) [.t 33, .t 35], .m 4 36]) <| .reg [.m 37 5, .m 38 6, .o 39 (.len true) [.t 38], .o 40 (.bin .add 0) [.t 39, .k 1], .o 41 (.bin .add 0) [.t 37, .t 40], .m 5 41])
def J5 : ACode := .seq (.reg [.o 2 .mv [.c (.os 3 [])], .o 3 .mv [.k 0]]) <| .seq (.reg [.o 4 .mv [.c (.os 3 [])]]) <| .seq (.reg [.o 5 .mv [.k 0]]) <| .block 0 ( .loop [(4, 3)] [0, 4, 5] CZ)
theorem Qt : cFn Tryz.prog J4 42 [.t 2, .t 3] J5 := ⟨Tryz.f13, _, Tryz.func13, rfl, by kernel_rfl, by kernel_rfl, by kernel_rfl, by kernel_rfl⟩
@[simp] def mdJ (f : Nat) : List Bool := if f = 999999 then [true, false] else if f = Aa then [true] else []
theorem PD (xs : List (Int × Int × Int)) : SoundAt Tryz.prog Aa [.os 3 (dsA xs)] (.os 3 (dsA xs)) [.bot] := by
 refine AJ (md := mdJ) (ms := [false]) CQ (by simp) ?_
 simp [BG]
 try exact List.take_of_length_le (by simp)
@[simp] theorem k9 (c : Nat) : ∀ xs : List (Int × Int × Int), vwL c (dsA xs) = dsA xs
  | [] => rfl
  | x :: xs => by show vw c (Ag x) :: vwL c (dsA xs) = Ag x :: dsA xs; rw [k9 c xs]; rfl
@[simp] theorem lA (xs : List (Int × Int × Int)) : (dsA xs).take xs.length = dsA xs := List.take_of_length_le (by simp)
def jrA (s : List UInt8) : AV := .tup [.os 3 (dsA (jr s).1), .v (.int .i64 ((jr s).2 : Int))]
set_option maxHeartbeats 4000000 in
theorem Qu (s : List UInt8) (hs : s.length < 2 ^ 30) : SoundAt Tryz.prog J1 [.v (tx s)] (jrA s) [.bot] := by
 refine AJ (md := mdJ) (ms := [false]) Qs (by simp) ?_
 simp [J3]
 refine AH (fun m E H => ∃ (k f : Nat) (done : List (Int × Int × Int)), m = s.length - k ∧ f ≤ k ∧ k ≤ s.length ∧ (∀ j : Nat, f ≤ j → j < k → s[j]? ≠ some 10) ∧ jr s = (done ++ (jr (s.drop f)).1, f + (jr (s.drop f)).2) ∧ done.length ≤ k ∧
  H = [some (.arr 3 (dsA done))] ∧ E = [(0, .v (tx s)), (4, .ls 3 0 0 done.length), (5, .v (.int .i64 (f : Int))), (6, .v (.int .i64 (k : Int)))]) s.length ⟨0, 0, [], by simp⟩ ?_
 rintro J hJ m E H ⟨k, f, done, rfl, hf, hk, hno, hj, hd, rfl, rfl⟩
 by_cases h : k < s.length
 ·by_cases he : s[k] = 10
  ·have hnl : nl (s.drop f) = some (k - f) := nJ (by rw [List.getElem?_drop, show f + (k - f) = k by omega, List.getElem?_eq_getElem h, he]) (fun j hj => by rw [List.getElem?_drop]; exact hno _ (by omega) (by omega))
   have rd := Ue ((s.drop f).take (k - f)) (by simp; omega)
   have e10 : ((s[k].toNat : Nat) : Int) = 10 := by rw [he]; rfl
   cases hr : Bo ((s.drop f).take (k - f)) with
   | false =>
     have hj' := dH hnl hr
     rw [hj'] at hj
     rw [hr] at rd
     simp only [Gp, Ag] at rd
     simp only [jrA, hj]
     simp [Bd, h, he]
     refine ⟨⟨by omega, by omega⟩, ?_⟩
     refine AA rd ?_
     simp
   | true =>
     have hj' := Vx hnl hr
     rw [List.drop_drop, show f + (k - f + 1) = k + 1 by omega] at hj'
     rw [hj'] at hj
     rw [hr] at rd
     generalize Cc ((s.drop f).take (k - f)) = d at *
     have nx := hJ (s.length - (k + 1)) [(0, .v (tx s)), (4, .ls 3 0 0 (done.length + 1)), (5, .v (.int .i64 ((k : Int) + 1))), (6, .v (.int .i64 ((k : Int) + 1)))] [some (.arr 3 (dsA done ++ [Ag d]))]
      ⟨k + 1, k + 1, done ++ [d], rfl, by omega, by omega, fun j h1 h2 => by omega, by rw [hj]; simp; omega, by simp; omega, by rw [Ns]; rfl, by simp⟩
     simp only [Ag] at nx
     simp only [Gp, Ag] at rd
     simp [Bd, h, he]
     refine ⟨⟨by omega, by omega⟩, ?_⟩
     refine AA rd ?_
     simp
     exact ⟨⟨by omega, by omega⟩, ⟨by omega, by omega⟩, _, by omega, nx⟩
  ·have nx := hJ (s.length - (k + 1)) [(0, .v (tx s)), (4, .ls 3 0 0 done.length), (5, .v (.int .i64 (f : Int))), (6, .v (.int .i64 ((k : Int) + 1)))] [some (.arr 3 (dsA done))]
    ⟨k + 1, f, done, rfl, by omega, by omega, fun j h1 h2 => by
     by_cases hjk : j = k
     ·subst hjk; rw [List.getElem?_eq_getElem h]; simpa using he
     ·exact hno j h1 (by omega), hj, by omega, rfl, by simp⟩
   have he' : ¬ ((s[k].toNat : Nat) : Int) = 10 := fun e => he (UInt8.toNat_inj.1 (by show s[k].toNat = 10; omega))
   simp [Bd, h, he']
   exact ⟨⟨by omega, by omega⟩, _, by omega, nx⟩
 ·have hk' : k = s.length := by omega
  subst hk'
  have hnl : nl (s.drop f) = none := dG fun j hj => by
   rw [List.getElem?_drop] at hj
   have : f + j < s.length := (List.getElem?_eq_some_iff.1 hj).1
   exact hno _ (by omega) this hj
  rw [Q8 hnl] at hj
  simp only [jrA, hj]
  simp [Bd]
set_option maxHeartbeats 4000000 in
theorem J6 (s : List UInt8) (hs : s.length < 2 ^ 30) : SoundAt Tryz.prog J4 [.v (tx s)] (jrA s) [.bot] := by
 refine AJ (md := mdJ) (ms := [false]) Qt (by simp) ?_
 simp [J5]
 refine AH (fun m E H => ∃ (f : Nat) (done : List (Int × Int × Int)), m = s.length - f ∧ f ≤ s.length ∧ jr s = (done ++ (jr (s.drop f)).1, f + (jr (s.drop f)).2) ∧ done.length ≤ f ∧
  H = [some (.arr 3 (dsA done))] ∧ E = [(0, .v (tx s)), (4, .ls 3 0 0 done.length), (5, .v (.int .i64 (f : Int)))]) s.length ⟨0, [], by simp⟩ ?_
 rintro J hJ m E H ⟨f, done, rfl, hf, hj, hd, rfl, rfl⟩
 have cu := XQ (s.drop f) 10 (by simp; omega)
 have cl := PD done
 have hdt : List.take (s.length - f) (List.drop f s) = List.drop f s := List.take_of_length_le (by simp)
 cases hnl : nl (s.drop f) with
 | none =>
   rw [Y5 hnl] at cu
   rw [Q8 hnl] at hj
   simp only [jrA, hj]
   have rd := Al (s.drop f) (by simp; omega)
   generalize Bo (s.drop f) = b at *
   generalize Cc (s.drop f) = d at *
   simp only [Gp, Ag] at rd
   simp [CZ, hf, hdt]
   refine AA cu ?_
   simp
   refine AA rd ?_
   simp
   refine AA cl ?_
   simp
 | some i =>
   have hi := bK hnl
   simp only [List.length_drop] at hi
   rw [Y4 hnl] at cu
   have rd := Al ((s.drop f).take i) (by simp; omega)
   have hli : ((s.drop f).take i).length = i := by simp; omega
   cases hr : Bo ((s.drop f).take i) with
   | false =>
     have hj' := dH hnl hr
     rw [hj'] at hj
     rw [hr] at rd
     generalize Cc ((s.drop f).take i) = d at *
     simp only [Gp, Ag] at rd
     simp only [jrA, hj]
     simp [CZ, hf, hdt]
     refine AA cu ?_
     simp
     refine AA rd ?_
     simp
     refine AA cl ?_
     simp
   | true =>
     have hj' := Vx hnl hr
     rw [List.drop_drop, show f + (i + 1) = f + i + 1 by omega] at hj'
     rw [hj'] at hj
     rw [hr] at rd
     generalize Cc ((s.drop f).take i) = d at *
     generalize (s.drop f).take i = ln at *
     have nx := hJ (s.length - (f + i + 1)) [(0, .v (tx s)), (4, .ls 3 0 0 (done.length + 1)), (5, .v (.int .i64 ((f : Int) + ((i : Int) + 1))))] [some (.arr 3 (dsA done ++ [Ag d]))]
      ⟨f + i + 1, done ++ [d], rfl, by omega, by rw [hj]; simp; omega, by simp; omega, by rw [Ns]; rfl, by simp; omega⟩
     simp only [Ag] at nx
     simp only [Gp, Ag] at rd
     simp [CZ, hf, hdt]
     refine AA cu ?_
     simp
     refine AA rd ?_
     simp [hli]
     exact ⟨⟨by omega, by omega⟩, ⟨by omega, by omega⟩, ⟨by omega, by omega⟩, _, by omega, nx⟩
end Go.Proofs.Dev
namespace Go.Proofs
open Go.Shelf
set_option maxRecDepth 1000000
theorem Tryz.lays166 : Go.Proofs.Lays.n166 Tryz.prog Tryz.lays156_ren :=
 have L := Tryz.lays156
 { mixed := L.mixed, f166 := L.f166, f240 := L.f240, f276 := L.f276, t0 := L.t0, a0 := L.a0, z0 := L.z0, v0 := L.v0, t3 := L.t3, a3 := L.a3, z3 := L.z3, v3 := L.v3, t4 := L.t4, a4 := L.a4, z4 := L.z4, v4 := L.v4, t9 := L.t9, a9 := L.a9, z9 := L.z9, v9 := L.v9, t20 := L.t20, a20 := L.a20, z20 := L.z20, v20 := L.v20, t37 := L.t37, a37 := L.a37, z37 := L.z37, v37 := L.v37, t70 := L.t70, a70 := L.a70, z70 := L.z70, v70 := L.v70, t72 := L.t72, a72 := L.a72, z72 := L.z72, v72 := L.v72, t75 := L.t75, a75 := L.a75, z75 := L.z75, v75 := L.v75, t164 := L.t164, a164 := L.a164, z164 := L.z164, v164 := L.v164 }
open Go.RowKit in
theorem Tryz.Builder_WriteString (B b : Nat) (bs : List Value) (s : ByteArray) (w : World) (h : Lib.IsBuilder 74 5 B b bs w) (hlen : bs.length + s.size ≤ 140737488355328) (hBw : B ≤ w.heap.size) :
  Calls Tryz.prog 46 #[.pointer (some ⟨b, 0, none⟩), .string s] w fun e w' => e = .returned (.tuple #[.int .i64 s.size, .nilIface]) ∧ Lib.IsBuilder 74 5 B b (bs ++ Lib.strCells s) w' ∧ Below B w w' :=
 (Any.Builder_WriteString Tryz.lays166 Tryz.Builder_Extra_156 B b bs s w h hlen hBw).mono fun _ _ ⟨h1, h2, h3⟩ => ⟨h1, Or.inr h2, h3⟩
end Go.Proofs
namespace Go.Proofs.Dev
open Go.RowKit Go.Shelf
def Bi : List (Int × Int × Int) → List UInt8
 | [] => []
 | d :: xs => Az d ++ 10 :: Bi xs
def N4 (xs : List (Int × Int × Int)) : List UInt8 := if xs.all Bq then Bi xs else []
theorem aY : ∀ xs : List (Int × Int × Int), (Bi xs).length ≤ 13 * xs.length
 | [] => by simp [Bi]
 | d :: xs => by
   have := aY xs
   have := Sv d
   simp only [Bi, List.length_append, List.length_cons]
   omega
theorem Yc {T e : TypeId} {B b : Nat} {bs : List Value} {w w' : World} (h : Go.Lib.IsBuilder T e B b bs w) (k : Below w.heap.size w w') : Go.Lib.IsBuilder T e B b bs w' := by
 have at' : ∀ p, Go.Lib.BuilderAt T e B b p bs w → Go.Lib.BuilderAt T e B b p bs w' := by
  rintro p ⟨hB, v, hb, hown, hne⟩
  exact ⟨hB, v, by rw [k.block b (Array.getElem?_eq_some_iff.1 hb).1]; exact hb, hown.kept (row := none) ⟨k.os, k.tape, k.output, k.size, fun i hi _ => k.block i hi⟩ (Classical.em _), hne⟩
 exact h.imp (at' _) (at' _)
set_option maxHeartbeats 4000000 in
theorem lB (xs : List (Int × Int × Int)) (b p c : Nat) (w : World) (hx : xs.length ≤ 2000000)
  (hdt : ∀ (wr : World) (d : Int × Int × Int), Below w.heap.size w wr → Calls Tryz.prog 20 #[.agg #[.int .i64 d.1, .int .i64 d.2.1, .int .i64 d.2.2]] wr fun e w' => e = .returned (.string ⟨(Az d).toArray⟩) ∧ Below wr.heap.size wr w')
  (hcells : ∀ (j : Nat) (d : Int × Int × Int), xs[j]? = some d → w.cell? ⟨b, p + j * 3, none⟩ = some (.int .i64 d.1) ∧ w.cell? ⟨b, p + j * 3 + 1, none⟩ = some (.int .i64 d.2.1) ∧ w.cell? ⟨b, p + j * 3 + 2, none⟩ = some (.int .i64 d.2.2))
  (hb : b < w.heap.size) (hc : xs.length ≤ c) :
  Calls Tryz.prog 10 #[.slice (some ⟨b, p, none⟩) xs.length c] w fun e w' => e = .returned (.string ⟨(N4 xs).toArray⟩) ∧ Below w.heap.size w w' := by
 have mixed := Tryz.lays156.mixed
 have t66 := Tryz.underlying74; have a66 := Tryz.isAgg74; have z66 := Tryz.sizeOf74; have v66 := Tryz.zeroValue74; have u66 := run_underlying Tryz.underlying74
 have t25 := Tryz.underlying46; have a25 := Tryz.isAgg46; have z25 := Tryz.sizeOf46; have v25 := Tryz.zeroValue46; have u25 := run_underlying Tryz.underlying46
 have t31 := Tryz.underlying23; have a31 := Tryz.isAgg23; have z31 := Tryz.sizeOf23; have v31 := Tryz.zeroValue23; have u31 := run_underlying Tryz.underlying23
 have t3 := Tryz.underlying3; have a3 := Tryz.isAgg3; have z3 := Tryz.sizeOf3; have v3 := Tryz.zeroValue3; have u3 := run_underlying Tryz.underlying3
 have t9 := Tryz.underlying9; have a9 := Tryz.isAgg9; have z9 := Tryz.sizeOf9; have v9 := Tryz.zeroValue9; have u9 := run_underlying Tryz.underlying9
 have t4 := Tryz.underlying4; have a4 := Tryz.isAgg4; have z4 := Tryz.sizeOf4; have v4 := Tryz.zeroValue4; have u4 := run_underlying Tryz.underlying4
 have e12 : ∀ args w, (callFunc 20 args).run Tryz.prog w = .ok (.enter 20 args) w := enters_of Tryz.func20 (by kernel_rfl) rfl
 have e48 : ∀ args w, (callFunc 46 args).run Tryz.prog w = .ok (.enter 46 args) w := enters_of Tryz.func46 (by kernel_rfl) rfl
 have e49 : ∀ args w, (callFunc 47 args).run Tryz.prog w = .ok (.enter 47 args) w := enters_of Tryz.func47 (by kernel_rfl) rfl
 have HC := Any.hidJ hcells
 have HD := Any.hidJ hdt
 clear hcells hdt
 go_enter Tryz.func10, Tryz.ntmps10
 go_wp2_with fail
 go_loopw [9] (fun i wr => ∃ k : Nat, k ≤ xs.length ∧ i = .int .i64 k ∧ (xs.take k).all Bq = true ∧ Hid (Lib.IsBuilder 74 5 w.heap.size w.heap.size (Lib.byteCells (Bi (xs.take k))) wr) ∧ Hid (Below w.heap.size w wr)) (fun i _ => xs.length - (intOf i).toNat)
 case atStart => exact ⟨0, Nat.zero_le _, rfl, rfl, Lib.fresh_isBuilder 74 5 w, (Below.refl w.heap.size w).alloc (Nat.le_refl _) _⟩
 case round =>
  obtain ⟨k, hk, rfl, hall, HB, HW⟩ := hrel
  by_cases hkn : k < xs.length
  ·obtain ⟨d, hd⟩ : ∃ d, xs[k]? = some d := ⟨xs[k], List.getElem?_eq_getElem hkn⟩
   obtain ⟨c0, c1, c2⟩ := HC.out k d hd
   have hl := HW.out
   have c0' : wr.cell? ⟨b, p + k * 3, none⟩ = some (.int .i64 d.1) := by rw [hl.cell (p := ⟨b, p + k * 3, none⟩) hb]; exact c0
   have c1' : wr.cell? ⟨b, p + k * 3 + 1, none⟩ = some (.int .i64 d.2.1) := by rw [hl.cell (p := ⟨b, p + k * 3 + 1, none⟩) hb]; exact c1
   have c2' : wr.cell? ⟨b, p + k * 3 + 2, none⟩ = some (.int .i64 d.2.2) := by rw [hl.cell (p := ⟨b, p + k * 3 + 2, none⟩) hb]; exact c2
   have hbr : b < wr.heap.size := Nat.lt_of_lt_of_le hb hl.size
   clear c0 c1 c2 hl
   go_wp2_with fail
   refine (HD.out (wr.alloc _) d (HW.out.alloc HW.out.size _)).mono ?_
   rintro e w1 ⟨rfl, hb1⟩
   have hb1' : Below wr.heap.size wr w1 := ((Below.refl wr.heap.size wr).alloc (Nat.le_refl _) _).trans ⟨hb1.os, hb1.tape, hb1.output, hb1.size, fun i hi => hb1.block i (by simp; omega)⟩
   have HB1 := Any.hidJ (Yc HB.out hb1')
   have HW1 := Any.hidJ (HW.out.trans ⟨hb1'.os, hb1'.tape, hb1'.output, hb1'.size, fun i hi => hb1'.block i (Nat.lt_of_lt_of_le hi HW.out.size)⟩ : Below w.heap.size w w1)
   have hBw1 : w.heap.size ≤ w1.heap.size := HW1.out.size
   clear hb1 hb1'
   have htk : xs.take (k + 1) = xs.take k ++ [d] := by
    obtain ⟨hk2, rfl⟩ := List.getElem?_eq_some_iff.1 hd
    exact List.take_succ_eq_append_getElem hk2
   cases ht : Bq d with
   | false =>
     have hr : N4 xs = [] := by
      rw [N4, if_neg]
      intro h
      have := List.all_eq_true.1 h d (List.mem_of_getElem? hd)
      rw [ht] at this
      cases this
     rw [(KY d).2 ht]
     have Hr := Any.hidJ hr
     clear hr
     go_wp2
     go_ret
     exact ⟨by rw [Hr.out]; rfl, HW1.out⟩
   | true =>
     have hne := (Mj ht).2
     have hlen := Sv d
     have hj : Bi (xs.take (k + 1)) = Bi (xs.take k) ++ (Az d ++ [10]) := by
      rw [htk]
      have : ∀ ys : List (Int × Int × Int), Bi (ys ++ [d]) = Bi ys ++ (Az d ++ [10]) := by
       intro ys
       induction ys with
       | nil => rfl
       | cons y ys ih => show Az y ++ 10 :: Bi (ys ++ [d]) = (Az y ++ 10 :: Bi ys) ++ _; rw [ih]; simp
      exact this _
     have Hj := Any.hidJ hj
     have Htk := Any.hidJ htk
     clear hj htk
     generalize Az d = t at *
     have hcmp : t.isEmpty = false := by
      cases t with
      | nil => exact absurd rfl hne
      | cons => rfl
     go_wp2_with fail
     have hsz : (Go.Lib.byteCells (Bi (xs.take k))).length + (ByteArray.mk (t ++ [10]).toArray).size ≤ 140737488355328 := by
      rw [Go.Lib.byteCells_length, Ot]
      have := aY (xs.take k)
      have h2 : (xs.take k).length ≤ xs.length := by rw [List.length_take]; omega
      simp only [List.length_append, List.length_singleton]
      omega
     have hstr : Go.Lib.strCells ⟨(t ++ [10]).toArray⟩ = Go.Lib.byteCells (t ++ [10]) := by rw [Go.Lib.strCells_eq]
     generalize ByteArray.mk (t ++ [10]).toArray = str at *
     have Hstr := Any.hidJ hstr
     clear hstr
     refine (Tryz.Builder_WriteString w.heap.size w.heap.size (Go.Lib.byteCells (Bi (xs.take k))) str w1 HB1.out hsz hBw1).mono ?_
     rintro e w2 ⟨rfl, h2, hb2⟩
     rw [Hstr.out, ← Go.Lib.byteCells_append, ← Hj.out] at h2
     have H2 := Any.hidJ h2
     have Hb2 := Any.hidJ (HW1.out.trans hb2)
     have ha2 : (xs.take (k + 1)).all Bq = true := by rw [Htk.out, List.all_append, hall]; simp [ht]
     clear h2 hb2 hsz
     go_wp2
     exact ⟨⟨k + 1, by omega, by go_num, ha2, H2, Hb2⟩, by simp [intOf]; omega⟩
  ·have hke : k = xs.length := by omega
   subst hke
   have hB' := HB.out
   rw [List.take_of_length_le (Nat.le_refl _)] at hB' hall
   have Hr := Any.hidJ (show N4 xs = Bi xs from if_pos hall)
   have hBw : w.heap.size ≤ wr.heap.size := HW.out.size
   go_wp2_with fail
   refine (Tryz.Builder_String_any w.heap.size w.heap.size _ wr hB' hBw).mono ?_
   rintro e w5 ⟨rfl, hb5⟩
   have Hb5 := Any.hidJ (HW.out.trans hb5)
   clear hb5 hB'
   go_wp2
   go_ret
   exact ⟨by rw [Hr.out]; rfl, Hb5.out⟩
set_option maxHeartbeats 4000000 in
theorem nc (a : Option Addr) (c : Nat) (w : World) :
  Calls Tryz.prog 10 #[.slice a 0 c] w fun e w' => e = .returned (.string ⟨(N4 []).toArray⟩) ∧ Below w.heap.size w w' := by
 have mixed := Tryz.lays156.mixed
 have t66 := Tryz.underlying74; have a66 := Tryz.isAgg74; have z66 := Tryz.sizeOf74; have v66 := Tryz.zeroValue74; have u66 := run_underlying Tryz.underlying74
 have t25 := Tryz.underlying46; have a25 := Tryz.isAgg46; have z25 := Tryz.sizeOf46; have v25 := Tryz.zeroValue46; have u25 := run_underlying Tryz.underlying46
 have t31 := Tryz.underlying23; have a31 := Tryz.isAgg23; have z31 := Tryz.sizeOf23; have v31 := Tryz.zeroValue23; have u31 := run_underlying Tryz.underlying23
 have t3 := Tryz.underlying3; have a3 := Tryz.isAgg3; have z3 := Tryz.sizeOf3; have v3 := Tryz.zeroValue3; have u3 := run_underlying Tryz.underlying3
 have t9 := Tryz.underlying9; have a9 := Tryz.isAgg9; have z9 := Tryz.sizeOf9; have v9 := Tryz.zeroValue9; have u9 := run_underlying Tryz.underlying9
 have t4 := Tryz.underlying4; have a4 := Tryz.isAgg4; have z4 := Tryz.sizeOf4; have v4 := Tryz.zeroValue4; have u4 := run_underlying Tryz.underlying4
 have e12 : ∀ args w, (callFunc 20 args).run Tryz.prog w = .ok (.enter 20 args) w := enters_of Tryz.func20 (by kernel_rfl) rfl
 have e48 : ∀ args w, (callFunc 46 args).run Tryz.prog w = .ok (.enter 46 args) w := enters_of Tryz.func46 (by kernel_rfl) rfl
 have e49 : ∀ args w, (callFunc 47 args).run Tryz.prog w = .ok (.enter 47 args) w := enters_of Tryz.func47 (by kernel_rfl) rfl
 go_enter Tryz.func10, Tryz.ntmps10
 go_wp2_with fail
 go_loopw [9] (fun i wr => i = .int .i64 0 ∧ Hid (Go.Lib.IsBuilder 74 5 w.heap.size w.heap.size (Go.Lib.byteCells []) wr) ∧ Hid (Below w.heap.size w wr)) (fun _ _ => 0)
 case atStart => exact ⟨rfl, Go.Lib.fresh_isBuilder 74 5 w, (Below.refl w.heap.size w).alloc (Nat.le_refl _) _⟩
 case round =>
  obtain ⟨rfl, HB, HW⟩ := hrel
  have hBw : w.heap.size ≤ wr.heap.size := HW.out.size
  go_wp2_with fail
  refine (Tryz.Builder_String_any w.heap.size w.heap.size _ wr HB.out hBw).mono ?_
  rintro e w5 ⟨rfl, hb5⟩
  have Hb5 := Any.hidJ (HW.out.trans hb5)
  clear hb5
  go_wp2
  go_ret
  exact ⟨rfl, Hb5.out⟩
theorem GB.below {w w' : World} {S : List Nat} {forb : Nat → Prop} (h : GB w S forb) (k : Below w.heap.size w w') : GB w' S forb := by
 refine ⟨RL.step (C := XV w S forb) (C' := XV w' S forb) ⟨k.size, ?_, fun _ _ hx => by simp [XV] at hx, Nat.le_refl _, fun _ _ => rfl, ?_⟩ gAs [] gUs (by simp) h.1, ?_⟩
 ·intro c b hb hbad
  exact ⟨hbad, k.block b hb⟩
 ·exact (EH [] k).room
 ·intro p hp
  obtain ⟨h1, u, hu, hq⟩ := h.2 p hp
  exact ⟨h1, u, (World.cell?_of_block (k.block _ (block_lt_of_cell hu))).trans hu, hq⟩
def WF (xs : List (Int × Int × Int)) : List Value := xs.flatMap fun d => [.int .i64 d.1, .int .i64 d.2.1, .int .i64 d.2.2]
theorem aZ {C : Ctx} : ∀ {xs : List (Int × Int × Int)} {S : List Nat} {us : List Value}, RL C (Ao (dsA xs)) S us → us = WF xs
 | [], S, us, h => by
   have h' : RL C [] S us := h
   rw [RL] at h'
   exact h'.2
 | d :: xs, S, us, h => by
   have h' : RL C (.v (.int .i64 d.1) :: .v (.int .i64 d.2.1) :: .v (.int .i64 d.2.2) :: Ao (dsA xs)) S us := h
   rw [RL] at h'
   obtain ⟨S1, S2, u, us', rfl, rfl, h1, h2⟩ := h'
   rw [RL] at h2
   obtain ⟨S3, S4, v, us2, rfl, rfl, h3, h4⟩ := h2
   rw [RL] at h4
   obtain ⟨S5, S6, x, us3, rfl, rfl, h5, h6⟩ := h4
   rw [R] at h1 h3 h5
   rw [aZ h6, h1.2, h3.2, h5.2]
   rfl
theorem WG : ∀ {xs : List (Int × Int × Int)} {j : Nat} {d : Int × Int × Int}, xs[j]? = some d → (WF xs)[j * 3]? = some (.int .i64 d.1) ∧ (WF xs)[j * 3 + 1]? = some (.int .i64 d.2.1) ∧ (WF xs)[j * 3 + 2]? = some (.int .i64 d.2.2)
 | [], j, d, h => by simp at h
 | e :: xs, 0, d, h => by
   have : e = d := by simpa using h
   subst this
   exact ⟨rfl, rfl, rfl⟩
 | e :: xs, j + 1, d, h => by
   have ih := WG (xs := xs) (j := j) (d := d) (by simpa using h)
   have e1 : WF (e :: xs) = .int .i64 e.1 :: .int .i64 e.2.1 :: .int .i64 e.2.2 :: WF xs := rfl
   rw [e1, Nat.succ_mul]
   exact ih
theorem hZ {w : World} {forb : Nat → Prop} (hg : GB w [] forb) (hforb : ∀ x, forb x → x < w.heap.size) (d : Int × Int × Int) :
  Calls Tryz.prog 20 #[.agg #[.int .i64 d.1, .int .i64 d.2.1, .int .i64 d.2.2]] w fun e w' => e = .returned (.string ⟨(Az d).toArray⟩) ∧ Below w.heap.size w w' := by
 have hr : RL (cin w [] forb) [Ag d] [] [.agg #[.int .i64 d.1, .int .i64 d.2.1, .int .i64 d.2.2]] := by
  rw [RL]
  refine ⟨[], [], _, _, rfl, rfl, ?_, by rw [RL]; exact ⟨rfl, rfl⟩⟩
  unfold Ag
  rw [R]
  refine ⟨[_, _, _], rfl, ?_⟩
  rw [RL]; refine ⟨[], [], _, _, rfl, rfl, by rw [R]; exact ⟨rfl, rfl⟩, ?_⟩
  rw [RL]; refine ⟨[], [], _, _, rfl, rfl, by rw [R]; exact ⟨rfl, rfl⟩, ?_⟩
  rw [RL]; exact ⟨[], [], _, _, rfl, rfl, by rw [R]; exact ⟨rfl, rfl⟩, by rw [RL]; exact ⟨rfl, rfl⟩⟩
 refine (F4 d w forb _ [] hr (by simp) (by simp) ⟨hforb, hg⟩).mono ?_
 rintro e w' ⟨v, S', rfl, hrl, _, _, hk⟩
 rw [RL] at hrl
 obtain ⟨S1, S2, u, us', _, huv, h1, _⟩ := hrl
 cases huv
 rw [R] at h1
 obtain ⟨_, rfl⟩ := h1
 exact ⟨rfl, Vr hk⟩
theorem Qv (xs : List (Int × Int × Int)) (hx : xs.length ≤ 2000000) : SoundAt Tryz.prog 10 [.sl 1 3 (dsA xs)] (.v (tx (N4 xs))) [.bot] := by
 intro w forb us S hr hnd hlt hforb
 rw [RL] at hr
 obtain ⟨S1, S2, u, us', rfl, rfl, h1, h2⟩ := hr
 rw [RL] at h2
 obtain ⟨rfl, rfl⟩ := h2
 rw [R] at h1
 obtain ⟨rfl, a, cap, rfl, hcap, h3⟩ := h1
 have fin : ∀ w', Below w.heap.size w w' → ∃ v S', Ending.returned (Value.string ⟨(N4 xs).toArray⟩) = .returned v ∧ RL (WP w' S' forb) (.v (tx (N4 xs)) :: [.bot]) S' (v :: [.slice a (dsA xs).length cap]) ∧ S'.Nodup ∧ (∀ x ∈ S', x < w'.heap.size ∧ (w.heap.size ≤ x ∨ x ∈ ([] ++ [] : List Nat))) ∧ Kept w.heap.size ([] ++ []) w w' := by
  intro w' hk
  refine ⟨_, [], rfl, ?_, by simp, by simp, EH _ hk⟩
  rw [RL]; refine ⟨[], [], _, _, rfl, rfl, by rw [R]; exact ⟨rfl, rfl⟩, ?_⟩
  rw [RL]; exact ⟨[], [], _, _, rfl, rfl, by rw [R], by rw [RL]; exact ⟨rfl, rfl⟩⟩
 by_cases h0 : xs = []
 ·subst h0
  refine (nc a cap w).mono ?_
  rintro e w' ⟨rfl, hb⟩
  exact fin _ hb
 ·rcases h3 with h3 | ⟨b, p, us, rfl, hb, _, hc, _, hrl⟩
  ·exact absurd (by simpa using congrArg List.length h3) h0
  have hus := aZ hrl
  subst hus
  have hg : GB w [] forb := hforb.2.mono (fun x hx => by simpa using hx)
  rw [V0] at hcap
  have := lB xs b p cap w hx (fun wr d hk => hZ (hg.below hk) (fun x hx' => Nat.lt_of_lt_of_le (hforb.1 x hx') hk.size) d) (fun j d hd => by
   obtain ⟨c0, c1, c2⟩ := WG hd
   exact ⟨hc _ _ c0, hc _ _ c1, hc _ _ c2⟩) hb hcap
  simp only [V0] at fin ⊢
  refine this.mono ?_
  rintro e w' ⟨rfl, hbl⟩
  exact fin w' hbl
open Go.RowKit
theorem lC {xs : List (Int × Int × Int)} {k : Nat} (h : k < xs.length) : Bi (xs.take (k + 1)) = Bi (xs.take k) ++ Az xs[k] ++ [10] := by
 rw [List.take_succ_eq_append_getElem h]
 have : ∀ ys : List (Int × Int × Int), Bi (ys ++ [xs[k]]) = Bi ys ++ Az xs[k] ++ [10] := by
  intro ys
  induction ys with
  | nil => simp [Bi]
  | cons y ys ih => show Az y ++ 10 :: Bi (ys ++ [xs[k]]) = _; rw [ih]; simp [Bi]
 exact this _
set_option maxHeartbeats 2000000 in
theorem Qw (xs : List (Int × Int × Int)) (hx : xs.length ≤ 2000000) : SoundAt Tryz.prog Jz [.sl 1 3 (dsA xs)] (.v (tx (N4 xs))) [.bot] := by
 refine AJ (md := mdT) (ms := [false]) Qq (by simp) ?_
 simp [J0]
 refine AH (fun m E H => ∃ k : Nat, m = xs.length - k ∧ k ≤ xs.length ∧ (xs.take k).all Bq = true ∧ H = [] ∧ E = [(0, .sl 1 3 (dsA xs)), (3, .v (tx (Bi (xs.take k)))), (4, .v (.int .i64 k))]) xs.length ⟨0, by simp [Bi]⟩ ?_
 rintro J hJ m E H ⟨k, rfl, hk, ha, rfl, rfl⟩
 by_cases h : k < xs.length
 ·have dt := I0 xs[k]
  have hlen := Sv xs[k]
  have hl := aY (xs.take k)
  have hl2 : (xs.take k).length ≤ xs.length := by rw [List.length_take]; omega
  cases ht : Bq xs[k] with
  | true =>
    have nx := hJ (xs.length - (k + 1)) [(0, .sl 1 3 (dsA xs)), (3, .v (tx (Bi (xs.take (k + 1))))), (4, .v (.int .i64 ((k : Int) + 1)))] [] ⟨k + 1, rfl, h, by rw [List.take_succ_eq_append_getElem h, List.all_append, ha]; simp [ht], rfl, by simp⟩
    rw [lC h] at nx
    have hne := (Mj ht).2
    generalize Az xs[k] = t at *
    generalize Bi (xs.take k) = o at *
    simp only [Ag] at dt
    simp [CY, h, QI, bO]
    refine AA dt ?_
    simp [hne, h, QI, bO]
    refine AA dt ?_
    simp
    rw [List.append_assoc] at nx
    exact ⟨by omega, by omega, by omega, _, by omega, nx⟩
  | false =>
    have hr : N4 xs = [] := by
     rw [N4, if_neg]
     intro h2
     have := List.all_eq_true.1 h2 xs[k] (List.getElem_mem h)
     rw [ht] at this
     cases this
    rw [hr]
    rw [(KY _).2 ht] at dt
    simp only [Ag] at dt
    simp [CY, h, QI, bO]
    refine AA dt ?_
    simp
 ·have : k = xs.length := by omega
  subst this
  rw [List.take_length] at ha ⊢
  have hr : N4 xs = Bi xs := if_pos ha
  rw [hr]
  simp [CY]
@[simp] def px (f : Nat) : List Bool := if f = 999999 ∨ f = 999999 then [true] else if f = 55 then [true, false] else md8 f
def lD (bs : List Int) (r : AV) (ups : List AV) : Prop := ∃ (t : List UInt8) (q : Nat), r = .v (tx t) ∧ t.length ≤ 410 ∧ ups = [rdA bs q, .bot]
theorem Un (bs : List Int) (p : Nat) (s : List UInt8) (hb : bs.length ≤ 2000) (hB : Byt bs) (hp : p < 2 ^ 38) (hs : s.length ≤ 200) :
  SoundSet Tryz.prog Nh [rdA bs p, .v (tx s)] (lD bs) := by
 refine Hb (md := px) (ms := [true, false]) Um (by simp) ?_
 by_cases h0 : s.length = 0
 ·have : s = [] := List.eq_nil_of_length_eq_zero h0
  subst this
  simp [I5]
  have fin : lD bs (.v (tx [10])) [rdA bs p, .bot] := ⟨[10], p, rfl, by simp, rfl⟩
  refine ⟨_, _, fin, ?_⟩
  simp
 ·have h0' : ¬ (s.length : Int) = 0 := by omega
  have hne : ¬ s = [] := fun e => h0 (by rw [e]; rfl)
  simp [I5, h0, h0', hne]
  refine AE (AB bs p s.length hb hB (by omega)) [0] (by simp) (by simp) (by simp) ?_
  rintro _ _ ⟨k, k0, k1, rfl, rfl⟩
  obtain ⟨k, rfl⟩ := Int.eq_ofNat_of_zero_le k0
  have hk1 : (0 : Int) ≤ (k : Int) + 1 := by omega
  have hk2 : k + 1 ≤ s.length := by omega
  have hk3 : k ≤ s.length := by omega
  simp [hk1, hk2, hk3]
  refine ⟨by omega, ?_⟩
  have lt : (List.take k s).length ≤ 200 := by rw [List.length_take]; omega
  have ld : (List.take (s.length - (k + 1)) (List.drop (k + 1) s)).length ≤ 200 := by rw [List.length_take]; omega
  generalize List.take k s = a at *
  generalize List.take (s.length - (k + 1)) (List.drop (k + 1) s) = b at *
  have fin : ∀ (o : List UInt8) (q : Nat), o.length ≤ 410 → lD bs (.v (tx o)) [rdA bs q, .bot] := fun o q h => ⟨o, q, rfl, h, rfl⟩
  refine ⟨?_, ?_⟩ <;>
  ·refine AE (AB bs (p + 1) 6 hb hB (by omega)) [0] (by simp) (by simp) (by simp) ?_
   rintro _ _ ⟨y, y0, y1, rfl, rfl⟩
   obtain rfl | rfl | rfl | rfl | rfl | rfl : y = 0 ∨ y = 1 ∨ y = 2 ∨ y = 3 ∨ y = 4 ∨ y = 5 := by omega
   all_goals
    simp
    refine ⟨by omega, by omega, ?_⟩
    first
    | (refine ⟨_, _, fin (a ++ b) (p + 1 + 1) (by simp; omega), ?_⟩; simp; done)
    | (refine ⟨_, _, fin (a ++ 48 :: b) (p + 1 + 1) (by simp; omega), ?_⟩; simp; done)
    | (refine ⟨_, _, fin (a ++ 32 :: b) (p + 1 + 1) (by simp; omega), ?_⟩; simp; done)
    | (refine ⟨_, _, fin (a ++ 10 :: b) (p + 1 + 1) (by simp; omega), ?_⟩; simp; done)
    | (refine ⟨_, _, fin (a ++ 101 :: b) (p + 1 + 1) (by simp; omega), ?_⟩; simp; done)
    | (refine ⟨_, _, fin (a ++ 98 :: 97 :: 99 :: 107 :: b) (p + 1 + 1) (by simp; omega), ?_⟩; simp; done)
@[simp] abbrev I6 : Nat := 95
@[simp] abbrev Va : Nat := 97
@[simp] abbrev PE : Nat := 36
@[simp] abbrev Dc : Nat := 15
def GV : ACode := .seq (.reg [.o 2 .mv [.c (.v (.string ⟨#[]⟩))]]) <| .seq (.reg [.m 5 0, .o 6 (.call 43 []) [.t 5], .m 3 6]) <| .seq (.reg [.m 7 3, .o 8 (.call 44 []) [.t 7], .o 9 (.call 11 []) [.t 8], .m 4 9]) <| .seq (.seq (.reg [.m 10 3, .o 11 (.call 54 []) [.t 10, .k 3]]) <| .block 0 ( .seq (.reg [.o 13 (.bin .eql 0) [.t 11, .k 0], .m 12 13]) <| .cond (.t 12) ( .seq (.reg [.m 14 3, .m 15 4, .o 16 (.call 55 []) [.t 14, .t 15], .m 2 16]) <| .ret) ( .seq (.reg [.o 18 (.bin .eql 0) [.t 11, .k 1], .m 17 18]) <| .cond (.t 17) ( .seq (.reg [.m 19 4, .m 20 3, .m 21 4, .o 22 (.len true) [.t 21], .o 23 (.bin .add 0) [.t 22, .k 1], .o 24 (.call 54 []) [.t 20, .t 23], .o 25 (.sslice false true) [.t 19, .t 24], .m 2 25]) <| .ret) ( .skip)))) <| .seq (.reg [.m 26 4, .m 2 26]) <| .ret
theorem MY : cFn Tryz.prog Dc 27 [.t 2] GV := ⟨Tryz.f15, _, Tryz.func15, rfl, by kernel_rfl, by kernel_rfl, by kernel_rfl, by kernel_rfl⟩
@[simp] def ph (f : Nat) : List Bool := if f = Va ∨ f = 61 ∨ f = 34 ∨ f = 65 then [true, false] else if f = Gs ∨ f = MX ∨ f = Dc ∨ f = PE ∨ f = 39 ∨ f = I6 then [true] else px f
def lE (bs : List Int) (p d : Nat) (r : AV) (ups : List AV) : Prop := ∃ (xs : List Tu) (q : Nat), xs.length ≤ 12 ∧ (∀ x ∈ xs, Bq x = true) ∧ q ≤ p + d ∧ r = .os 3 (dsA xs) ∧ ups = [rdA bs q]
theorem Ri (bs : List Int) (p : Nat) (hb : bs.length ≤ 2000) (hB : Byt bs) (hp : p < 2 ^ 32) : SoundSet Tryz.prog Gs [rdA bs p] (lE bs p 1200) := by
 refine Hb (md := ph) (ms := [true]) Rh (by simp) ?_
 simp [K9]
 refine AE (Oe bs p 0 hb hB (by omega) (by omega) (by omega)) [0] (by simp) (by simp) (by simp) ?_
 rintro _ _ ⟨W, T, cs, ds, ls, ps, q, h1, h2, h3, h4, h5, hq, rfl, rfl⟩
 simp
 refine AE (Ni bs q W T cs ds ls ps hb hB (by omega) (by omega) (by omega) (by omega) (by omega) (fun p hp => by have := h5 p hp; omega)) [0] (by simp) (by simp) (by simp) ?_
 rintro _ _ ⟨xs, q2, x1, x2, hq2, rfl, rfl⟩
 simp
 refine AH (fun m E H => ∃ (i : Nat) (ys : List Tu), m = xs.length - i ∧ i ≤ xs.length ∧ ys.length ≤ i ∧ (∀ x ∈ ys, Bq x = true) ∧ E = [(3, .ls 3 0 0 ys.length), (4, .ls 3 1 0 xs.length), (5, .v (.int .i64 i)), (31, .lp 0 2 0 0)] ∧
  H = [some (.arr 3 (dsA ys)), some (.arr 3 (dsA xs)), some (.box [.sl 0 1 (u8s bs), .v (.int .i64 q2)])]) xs.length ⟨0, [], by simp⟩ ?_
 rintro J hJ m E H ⟨i, ys, rfl, hi, hy, hys, rfl, rfl⟩
 by_cases h : i < xs.length
 ·have dt := I0 xs[i]
  have hg := W5 h
  have ap : dsA ys ++ [Ag xs[i]] = dsA (ys ++ [xs[i]]) := by simp [dsA]
  simp only [Ag] at dt ap
  cases ht : Bq xs[i] with
  | true =>
    have hne := (Mj ht).2
    have nx := hJ (xs.length - (i + 1)) [(3, .ls 3 0 0 (ys ++ [xs[i]]).length), (4, .ls 3 1 0 xs.length), (5, .v (.int .i64 ((i : Int) + 1))), (31, .lp 0 2 0 0)] _ ⟨i + 1, ys ++ [xs[i]], rfl, h, by simp; omega, by intro x hx; simp at hx; rcases hx with hx | rfl; exact hys x hx; exact ht, by simp, rfl⟩
    rw [List.length_append, List.length_singleton, ← ap] at nx
    generalize Az xs[i] = t at *
    simp [Ck, h, hg, Ag]
    refine AA dt ?_
    simp [hne, h, hg, Ag]
    exact ⟨by omega, by omega, _, by omega, nx⟩
  | false =>
    have nx := hJ (xs.length - (i + 1)) [(3, .ls 3 0 0 ys.length), (4, .ls 3 1 0 xs.length), (5, .v (.int .i64 ((i : Int) + 1))), (31, .lp 0 2 0 0)] _ ⟨i + 1, ys, rfl, h, by omega, hys, by simp, rfl⟩
    rw [(KY xs[i]).2 ht] at dt
    simp [Ck, h, hg, Ag]
    refine AA dt ?_
    simp
    exact ⟨by omega, _, by omega, nx⟩
 ·have : i = xs.length := by omega
  subst this
  have tk : (dsA ys).take ys.length = dsA ys := List.take_of_length_le (by simp)
  simp [Ck]
  refine ⟨_, _, ⟨ys, q2, by omega, hys, by omega, rfl, rfl⟩, ?_⟩
  simp [tk]
end Go.Proofs.Dev
