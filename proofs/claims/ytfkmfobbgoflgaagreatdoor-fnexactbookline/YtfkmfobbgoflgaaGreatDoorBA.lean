/- Contracts of the functions of the program over slots and rows, each proved against the program itself; no condition beyond those that each theorem names. -/
import Derived.Test.YtfkmfobbgoflgaaGreatDoorAN
import Derived.Test.YtfkmfobbgoflgaaGreatDoorAZ
import Derived.Test.YtfkmfobbgoflgaaGreatDoorAI
import Derived.Test.YtfkmfobbgoflgaaGreatDoorProg
import Derived.Test.YtfkmfobbgoflgaaGreatDoorAV
import Derived.Test.YtfkmfobbgoflgaaGreatDoorAK
set_option linter.unusedSimpArgs false
set_option linter.unusedVariables false
set_option maxRecDepth 100000
namespace Go.Proofs.Dev
open Go.RowKit
@[simp] def mdL (f : Nat) : List Bool := if f = CC then [true] else mdl f
def Q6 (W T : Int) (cs : List Bool) (ds : List Int) : List Int → List (List Int) → List (List UInt8) → List Int × List (List Int) × List (List UInt8)
 | ls, ps, [] => (ls, ps, [])
 | ls, ps, s :: xs => let r := C7 W T cs ds ls ps s; let q := Q6 W T cs ds r.1 r.2.1 xs; (q.1, q.2.1, r.2.2 :: q.2.2)
theorem WO (W T : Int) (cs : List Bool) (ds : List Int) : ∀ (xs ys : List (List UInt8)) (ls : List Int) (ps : List (List Int)),
  Q6 W T cs ds ls ps (xs ++ ys) = ((Q6 W T cs ds (Q6 W T cs ds ls ps xs).1 (Q6 W T cs ds ls ps xs).2.1 ys).1, (Q6 W T cs ds (Q6 W T cs ds ls ps xs).1 (Q6 W T cs ds ls ps xs).2.1 ys).2.1,
   (Q6 W T cs ds ls ps xs).2.2 ++ (Q6 W T cs ds (Q6 W T cs ds ls ps xs).1 (Q6 W T cs ds ls ps xs).2.1 ys).2.2)
 | [], ys, ls, ps => rfl
 | x :: xs, ys, ls, ps => by
   rw [List.cons_append, Q6, Q6]
   simp only [WO W T cs ds xs ys, List.cons_append]
theorem ae (W T : Int) (cs : List Bool) (ds : List Int) (xs : List (List UInt8)) (s : List UInt8) (ls : List Int) (ps : List (List Int)) :
  Q6 W T cs ds ls ps (xs ++ [s]) = (let q := Q6 W T cs ds ls ps xs; let r := C7 W T cs ds q.1 q.2.1 s; (r.1, r.2.1, q.2.2 ++ [r.2.2])) := by
 rw [WO]; rfl
theorem iC {W T : Int} {cs : List Bool} {ds : List Int} : ∀ (xs : List (List UInt8)) {ls : List Int} {ps : List (List Int)}, Am W T cs ds ls ps = true → Am W T cs ds (Q6 W T cs ds ls ps xs).1 (Q6 W T cs ds ls ps xs).2.1 = true
 | [], _, _, h => h
 | x :: xs, _, _, h => iC xs (Xb x h)
theorem eM {W T : Int} {cs : List Bool} {ds : List Int} : ∀ (xs : List (List UInt8)) (ls : List Int) (ps : List (List Int)), (Q6 W T cs ds ls ps xs).2.2.length = xs.length
 | [], _, _ => rfl
 | x :: xs, _, _ => by rw [Q6]; simp [eM xs]
def eO (W T : Int) (cs : List Bool) (ds ls : List Int) (ps : List (List Int)) (xs : List (List UInt8)) : Bool := Am W T cs ds ls ps && decide (xs.length ≤ 40)
def mU (W T : Int) (cs : List Bool) (ds ls : List Int) (ps : List (List Int)) (xs : List (List UInt8)) : AV :=
 if eO W T cs ds ls ps xs = true then .tup [bkO W T cs ds (Q6 W T cs ds ls ps xs).1 (Q6 W T cs ds ls ps xs).2.1, .os 1 (txs (Q6 W T cs ds ls ps xs).2.2)] else .tup [bkO 0 0 [] [] [] [], .os 1 []]
theorem R0 (ls : List (List UInt8)) : SoundAt Tryz.prog CC [.os 1 (txs ls)] (.os 1 (txs ls)) [.bot] := by
 refine AE (md := mdL) (ms := [false]) IL (by simp) ?_
 simp [EE]
theorem Vs (W T : Int) (cs : List Bool) (ds ls : List Int) (ps : List (List Int)) (xs : List (List UInt8)) (hc : cs.length ≤ 2 ^ 30) (hd : ds.length ≤ 2 ^ 30) (hl : ls.length ≤ 2 ^ 30) (hb : ps.length ≤ 2 ^ 30) (hp : ∀ p ∈ ps, p.length ≤ 2 ^ 30) (hn : xs.length < 2 ^ 40) (hx : ∀ x ∈ xs, x.length < 2 ^ 30) :
  SoundAt Tryz.prog KA [bkA W T cs ds ls ps, .sl 1 1 (txs xs)] (mU W T cs ds ls ps xs) [.bot, .bot] := by
 have hv := Ll W T cs ds ls ps (by omega) (by omega) (by omega) (by omega) (fun p h => by have := hp p h; omega)
 refine AE (md := mdL) (ms := [false, false]) VT (by simp) ?_
 unfold mU eO
 cases h : Am W T cs ds ls ps with
 | false =>
   rw [h] at hv
   simp [Gn]
   refine AA hv ?_
   simp
 | true =>
 rw [h] at hv
 by_cases h40 : xs.length ≤ 40
 case neg =>
  have h41 : (40 : Int) < xs.length := by omega
  simp [Gn, h40]
  refine AA hv ?_
  simp [h41]
 have h41 : ¬ (40 : Int) < xs.length := by omega
 obtain ⟨hf, h20, hpf⟩ := Aa h
 obtain ⟨l36, ld, ll⟩ := Ct hf
 have hcopy := Jv W T cs ds ls ps (by omega) (by omega) (by omega) (by omega) (fun p hp => by have := Ct (hpf p hp); omega)
 simp [Gn, h40]
 refine AA hv ?_
 simp [h41]
 refine AA hcopy ?_
 simp
 refine AF (fun m E H => ∃ (i : Nat) (l : List Int) (p : List (List Int)) (as' : List (List UInt8)), m = xs.length - i ∧ i ≤ xs.length ∧ Q6 W T cs ds ls ps (xs.take i) = (l, p, as') ∧ as'.length = i ∧ Am W T cs ds l p = true ∧
  E = [(4, .lp 0 0 0 0), (6, .lp 0 1 0 0), (7, .ls 1 2 0 as'.length), (21, .sl 1 1 (txs xs)), (22, .v (.int .i64 xs.length)), (23, .v (.int .i64 i))] ∧
  H = [some (.box [.v (.int .i64 0), .v (.int .i64 0), .os 1 [], .os 1 [], .os 1 [], .os 1 []]), some (.box [.v (.int .i64 W), .v (.int .i64 T), .ls 1 3 0 cs.length, .ls 1 4 0 ds.length, .ls 1 5 0 l.length, .ls 1 6 0 p.length]),
    some (.arr 1 (txs as')), some (.arr 1 (AC cs)), some (.arr 1 (AB ds)), some (.arr 1 (AB l)), some (.arr 1 (oss p))]) xs.length ⟨0, ls, ps, [], by simp, by omega, by simp [Q6], rfl, h, by simp, by simp⟩ ?_
 rintro J hJ m E H ⟨i, l, p, as', rfl, hi, hr, hai, hbk, rfl, rfl⟩
 have htl : (AB l).take l.length = AB l := AD l
 have hto : (oss p).take p.length = oss p := List.take_of_length_le (by simp [oss])
 by_cases hlt : i < xs.length
 ·have hln := L4 W T cs ds l p xs[i] hbk (hx _ (List.getElem_mem hlt))
  have hbk2 := Xb xs[i] hbk
  have hr2 : Q6 W T cs ds ls ps (xs.take (i + 1)) = ((C7 W T cs ds l p xs[i]).1, (C7 W T cs ds l p xs[i]).2.1, as' ++ [(C7 W T cs ds l p xs[i]).2.2]) := by
   rw [List.take_succ_eq_append_getElem hlt, ae, hr]
  have hat : att xs (i : Int) = xs[i] := by simp [att, hlt]
  generalize C7 W T cs ds l p xs[i] = r at *
  obtain ⟨l2, p2, a⟩ := r
  have htl2 : (AB l2).take l2.length = AB l2 := AD l2
  have hto2 : (oss p2).take p2.length = oss p2 := List.take_of_length_le (by simp [oss])
  simp only at hln hbk2 hr2
  have ap : txs as' ++ [.v (tx a)] = txs (as' ++ [a]) := by simp [txs]
  have nx := hJ (xs.length - (i + 1)) _ _ ⟨i + 1, l2, p2, as' ++ [a], rfl, hlt, hr2, by simp [hai], hbk2, rfl, rfl⟩
  rw [List.length_append, List.length_singleton, ← ap] at nx
  simp only [Int.natCast_add, Int.cast_ofNat_Int] at nx
  simp [Ga, hlt, hat]
  refine AA hln ?_
  simp
  exact ⟨by omega, by omega, _, by omega, nx⟩
 ·have : i = xs.length := by omega
  subst this
  rw [List.take_length] at hr
  have cl := R0 as'
  have tk : (txs as').take as'.length = txs as' := List.take_of_length_le (by simp)
  simp [Ga, hr]
  (repeat' first | omega | apply And.intro) <;>
  ·refine AA cl ?_
   simp [htl, hto, tk]
set_option maxHeartbeats 4000000 in
theorem Vt (W T : Int) (cs : List Bool) (ds ls : List Int) (ps : List (List Int)) (xs : List (List UInt8)) (hc : cs.length ≤ 2 ^ 30) (hd : ds.length ≤ 2 ^ 30) (hl : ls.length ≤ 2 ^ 30) (hb : ps.length ≤ 2 ^ 30) (hp : ∀ p ∈ ps, p.length ≤ 2 ^ 30) (hn : xs.length < 2 ^ 40) (hx : ∀ x ∈ xs, x.length < 2 ^ 30) :
  SoundAt Tryz.prog J9 [bkA W T cs ds ls ps, .sl 1 1 (txs xs)] (mU W T cs ds ls ps xs) [.bot, .bot] := by
 have hv := Bm W T cs ds ls ps (by omega) (by omega) (by omega) (by omega) (fun p h => by have := hp p h; omega)
 refine AE (md := mdL) (ms := [false, false]) VS (by simp) ?_
 unfold mU eO
 cases h : Am W T cs ds ls ps with
 | false =>
   rw [h] at hv
   simp [Gm]
   refine AA hv ?_
   simp
 | true =>
 rw [h] at hv
 by_cases h40 : xs.length ≤ 40
 case neg =>
  have h41 : (40 : Int) < xs.length := by omega
  simp [Gm, h40]
  refine AA hv ?_
  simp [h41]
 have h41 : ¬ (40 : Int) < xs.length := by omega
 have hcopy := An h
 simp [Gm, h40]
 refine AA hv ?_
 simp [h41]
 refine AA hcopy ?_
 simp
 refine AF (fun m E H => ∃ (i : Nat) (l : List Int) (p : List (List Int)) (as' : List (List UInt8)), m = xs.length - i ∧ i ≤ xs.length ∧ Q6 W T cs ds ls ps (xs.take i) = (l, p, as') ∧ as'.length = i ∧ Am W T cs ds l p = true ∧
  E = [(1, .sl 1 1 (txs xs)), (4, .lp 0 0 0 0), (6, .ls 1 1 0 as'.length), (7, .lp 0 2 0 0), (8, .v (.int .i64 i))] ∧
  H = [some (.box [.v (.int .i64 0), .v (.int .i64 0), .os 1 [], .os 1 [], .os 1 [], .os 1 []]), some (.arr 1 (txs as')), some (.box [.v (.int .i64 W), .v (.int .i64 T), .ls 1 3 0 cs.length, .ls 1 4 0 ds.length, .ls 1 5 0 l.length, .ls 1 6 0 p.length]),
    some (.arr 1 (AC cs)), some (.arr 1 (AB ds)), some (.arr 1 (AB l)), some (.arr 1 (oss p))]) xs.length ⟨0, ls, ps, [], by simp, by omega, by simp [Q6], rfl, h, by simp, by simp⟩ ?_
 rintro J hJ m E H ⟨i, l, p, as', rfl, hi, hr, hai, hbk, rfl, rfl⟩
 have htl : (AB l).take l.length = AB l := AD l
 have hto : (oss p).take p.length = oss p := List.take_of_length_le (by simp [oss])
 by_cases hlt : i < xs.length
 ·obtain ⟨b1, b2, b3, b4, b5, _⟩ := F1 hbk
  have hln := Nb W T cs ds l p xs[i] (by omega) (by omega) (by omega) (by omega) (fun q hq => by have := b5 q hq; omega) (hx _ (List.getElem_mem hlt))
  unfold WN at hln
  rw [hbk] at hln
  simp only [if_true] at hln
  have hbk2 := Xb xs[i] hbk
  have hr2 : Q6 W T cs ds ls ps (xs.take (i + 1)) = ((C7 W T cs ds l p xs[i]).1, (C7 W T cs ds l p xs[i]).2.1, as' ++ [(C7 W T cs ds l p xs[i]).2.2]) := by
   rw [List.take_succ_eq_append_getElem hlt, ae, hr]
  have hat : att xs (i : Int) = xs[i] := by simp [att, hlt]
  generalize C7 W T cs ds l p xs[i] = r at *
  obtain ⟨l2, p2, a⟩ := r
  have htl2 : (AB l2).take l2.length = AB l2 := AD l2
  have hto2 : (oss p2).take p2.length = oss p2 := List.take_of_length_le (by simp [oss])
  simp only at hln hbk2 hr2
  have ap : txs as' ++ [.v (tx a)] = txs (as' ++ [a]) := by simp [txs]
  have nx := hJ (xs.length - (i + 1)) _ _ ⟨i + 1, l2, p2, as' ++ [a], rfl, hlt, hr2, by simp [hai], hbk2, rfl, rfl⟩
  rw [List.length_append, List.length_singleton, ← ap] at nx
  simp only [Int.natCast_add, Int.cast_ofNat_Int] at nx
  simp [GZ, hlt, hat]
  (repeat' first | omega | apply And.intro) <;>
  ·refine AA hln ?_
   simp
   exact ⟨by omega, by omega, _, by omega, nx⟩
 ·have : i = xs.length := by omega
  subst this
  rw [List.take_length] at hr
  have tk : (txs as').take as'.length = txs as' := List.take_of_length_le (by simp)
  simp [GZ, hr, htl, hto, tk]
@[simp] abbrev Dh : Nat := 5
def Cl : ACode := .seq (.reg [.o 11 .mv [.k 1]]) <| .seq (.reg [.la 53 6 8, .m 54 11, .o 55 (.call 27 []) [.t 53, .t 54], .m 11 55]) <| .seq (.seq (.reg [.m 56 11, .o 57 (.bin .lss 0) [.t 56, .k 0], .m 58 57, .g 59 (.load true 6) [.t 9] 58 false, .g 60 (.load true 6) [.t 6] 58 false, .g 61 (.call 26 []) [.t 59, .t 60] 58 false, .g 62 (.un .not) [.t 61] 58 false, .o 63 .pick [.t 58, .kb true, .t 62], .m 64 63, .mg 65 10 64 false, .mg 66 7 64 false, .g 67 (.bin .neq 1) [.t 65, .t 66] 64 false, .o 68 .pick [.t 64, .kb true, .t 67]]) <| .cond (.t 68) ( .seq (.reg [.o 4 .mv [.kb false]]) <| .ret) ( .skip)) <| .seq (.reg [.o 12 .mv [.k 1]]) <| .seq (.reg [.la 69 6 9, .m 70 12, .o 71 (.call 27 []) [.t 69, .t 70], .m 12 71]) <| .seq (.reg [.o 13 .mv [.k 1]]) <| .seq (.reg [.la 72 6 9, .m 73 13, .o 74 (.call 28 []) [.t 72, .t 73], .m 13 74]) <| .seq (.seq (.reg [.m 75 13, .o 76 (.bin .lss 0) [.t 75, .k 0]]) <| .cond (.t 76) ( .seq (.reg [.o 4 .mv [.kb false]]) <| .ret) ( .skip)) <| .seq (.seq (.reg [.m 77 13, .m 78 12, .o 79 (.bin .neq 0) [.t 77, .t 78]]) <| .cond (.t 79) ( .seq (.reg [.o 4 .mv [.kb false]]) <| .ret) ( .skip)) <| .seq (.reg [.la 81 6 2, .o 82 (.call 25 []) [.t 81], .m 83 1, .o 84 (.call 19 []) [.t 82, .t 83], .m 80 84, .e 85 0 80, .e 86 1 80, .o 14 (.alloc bz) [], .s (.store 6) [.t 14, .t 85], .m 15 86]) <| .seq (.seq (.reg [.la 87 6 14, .la 88 6 6, .o 89 (.call 26 []) [.t 87, .t 88], .o 90 (.un .not) [.t 89], .m 91 90, .mg 92 15 91 false, .mg 93 7 91 false, .g 94 (.bin .neq 1) [.t 92, .t 93] 91 false, .o 95 .pick [.t 91, .kb true, .t 94]]) <| .cond (.t 95) ( .seq (.reg [.o 4 .mv [.kb false]]) <| .ret) ( .skip)) <| .seq (.reg [.o 13 .mv [.k 1]]) <| .seq (.reg [.la 96 6 9, .m 97 13, .o 98 (.call 28 []) [.t 96, .t 97], .m 13 98]) <| .seq (.seq (.reg [.m 99 13, .o 100 (.bin .lss 0) [.t 99, .k 0]]) <| .cond (.t 100) ( .seq (.reg [.o 4 .mv [.kb false]]) <| .ret) ( .skip)) <| .seq (.seq (.reg [.m 101 13, .m 102 12, .o 103 (.bin .neq 0) [.t 101, .t 102]]) <| .cond (.t 103) ( .seq (.reg [.o 4 .mv [.kb false]]) <| .ret) ( .skip)) <| .seq (.reg [.o 4 .mv [.kb true]]) <| .ret
abbrev Cm : Plan := .al (.o 51 (.call 26 []) [.t 48, .t 50]) ( .take (.o 52 (.un .not) [.t 51]) <| .done)
def CH : ACode := .seq (.reg [.o 2 .box [.t 0], .o 4 .mv [.kb false]]) <| .seq (.seq (.reg [.m 16 1, .o 17 (.len true) [.t 16], .o 18 (.bin .gtr 0) [.t 17, .k 1048576]]) <| .cond (.t 18) ( .seq (.reg [.o 4 .mv [.kb true]]) <| .ret) ( .skip)) <| .seq (.reg [.o 5 .mv [.k 1048576]]) <| .seq (.reg [.la 19 6 2, .m 20 5, .o 21 (.call 23 []) [.t 19, .t 20], .m 5 21]) <| .seq (.seq (.reg [.m 22 5, .o 23 (.bin .lss 0) [.t 22, .k 0]]) <| .cond (.t 23) ( .seq (.reg [.o 4 .mv [.kb true]]) <| .ret) ( .skip)) <| .seq (.reg [.la 25 6 2, .o 26 (.call 25 []) [.t 25], .m 27 1, .o 28 (.call 24 []) [.t 26, .t 27], .m 24 28, .e 29 0 24, .e 30 1 24, .o 6 (.alloc bz) [], .s (.store 6) [.t 6, .t 29], .m 7 30]) <| .seq (.reg [.la 31 6 2, .o 32 (.call 25 []) [.t 31], .o 8 (.alloc bz) [], .s (.store 6) [.t 8, .t 32]]) <| .seq (.reg [.la 34 6 8, .m 35 1, .o 36 (.call 19 []) [.t 34, .t 35], .m 33 36, .e 37 0 33, .e 38 1 33, .o 9 (.alloc bz) [], .s (.store 6) [.t 9, .t 37], .m 10 38]) <| .seq (.seq (.reg [.la 39 6 9, .la 40 6 6, .o 41 (.call 26 []) [.t 39, .t 40], .o 42 (.un .not) [.t 41], .m 43 42, .mg 44 10 43 false, .mg 45 7 43 false, .g 46 (.bin .neq 1) [.t 44, .t 45] 43 false, .o 47 .pick [.t 43, .kb true, .t 46]]) <| .cond (.t 47) ( .seq (.reg [.o 4 .mv [.kb false]]) <| .ret) ( .skip)) <| .seq (.seq (.draw ( .alt (.la 48 6 8) ( .al (.la 49 6 2) ( .al (.o 50 (.call 25 []) [.t 49]) Cm)) <| .al (.la 49 6 2) ( .alt (.la 48 6 8) ( .al (.o 50 (.call 25 []) [.t 49]) Cm) <| .al (.o 50 (.call 25 []) [.t 49]) ( .al (.la 48 6 8) Cm)))) <| .cond (.t 52) ( .seq (.reg [.o 4 .mv [.kb false]]) <| .ret) ( .skip)) <| .gc [] [1, 2, 6, 7, 8, 9, 10] Cl
theorem Di : cFn Tryz.prog Dh 104 [.t 4] CH := ⟨Tryz.f5, _, Tryz.func5, rfl, by kernel_rfl, by kernel_rfl, by kernel_rfl, by kernel_rfl⟩
@[simp] abbrev L5 : Nat := 29
def DS : ACode := .seq (.seq (.reg [.m 12 5, .m 13 0, .n 14 13, .o 15 (.bin .lss 0) [.t 12, .t 14]]) <| .cond (.t 15) ( .skip) ( .exit 0)) <| .seq (.block 1 ( .seq (.reg [.m 18 1, .m 19 0, .m 20 5, .o 21 (.iadr 1) [.t 19, .t 20], .l 22 21, .o 23 (.len true) [.t 22], .o 24 (.bin .sub 0) [.t 18, .t 23], .m 1 24]) <| .seq (.reg [.m 25 1, .o 26 (.bin .lss 0) [.t 25, .k 0]]) <| .cond (.t 26) ( .seq (.reg [.o 4 .mv [.k (-1)]]) <| .ret) ( .skip))) <| .reg [.m 16 5, .o 17 (.bin .add 0) [.t 16, .k 1], .m 5 17]
def HK : ACode := .seq (.reg [.o 4 .mv [.k 0]]) <| .seq (.reg [.m 6 1, .m 7 0, .n 8 7, .o 9 (.bin .sub 0) [.t 6, .t 8], .m 1 9]) <| .seq (.seq (.reg [.m 10 1, .o 11 (.bin .lss 0) [.t 10, .k 0]]) <| .cond (.t 11) ( .seq (.reg [.o 4 .mv [.k (-1)]]) <| .ret) ( .skip)) <| .seq (.seq (.reg [.o 5 .mv [.k 0]]) <| .block 0 ( .loop [(0, 1)] [0, 1, 5] DS)) <| .seq (.reg [.m 27 1, .m 4 27]) <| .ret
theorem S5 : cFn Tryz.prog L5 28 [.t 4] HK := ⟨Tryz.f29, _, Tryz.func29, rfl, by kernel_rfl, by kernel_rfl, by kernel_rfl, by kernel_rfl⟩
@[simp] abbrev L6 : Nat := 31
def FD : ACode := .seq (.seq (.reg [.m 8 4, .m 9 0, .n 10 9, .o 11 (.bin .lss 0) [.t 8, .t 10]]) <| .cond (.t 11) ( .skip) ( .exit 0)) <| .seq (.block 1 ( .reg [.m 14 3, .m 15 4, .m 16 0, .m 17 4, .o 18 (.iadr 1) [.t 16, .t 17], .l 19 18, .o 20 (.iadr 1) [.t 14, .t 15], .s (.store 1) [.t 20, .t 19]])) <| .reg [.m 12 4, .o 13 (.bin .add 0) [.t 12, .k 1], .m 4 13]
def L7 : ACode := .seq (.reg [.o 2 .mv [.c (.os 1 [])]]) <| .seq (.reg [.m 5 0, .n 6 5, .o 7 (.mksl 1 16 (.v (.string ⟨#[]⟩))) [.t 6, .t 6], .m 3 7]) <| .seq (.seq (.reg [.o 4 .mv [.k 0]]) <| .block 0 ( .loop [(0, 1), (3, 1)] [0, 3, 4] FD)) <| .seq (.reg [.m 21 3, .m 2 21]) <| .ret
theorem S6 : cFn Tryz.prog L6 22 [.t 2] L7 := ⟨Tryz.f31, _, Tryz.func31, rfl, by kernel_rfl, by kernel_rfl, by kernel_rfl, by kernel_rfl⟩
@[simp] abbrev L8 : Nat := 33
def DT : ACode := .seq (.seq (.reg [.m 11 5, .m 12 0, .n 13 12, .o 14 (.bin .lss 0) [.t 11, .t 13]]) <| .cond (.t 14) ( .skip) ( .exit 0)) <| .seq (.block 1 ( .seq (.draw ( .take (.m 17 0) <| .take (.m 18 5) <| .take (.o 19 (.iadr 1) [.t 17, .t 18]) <| .take (.m 21 1) <| .take (.m 22 5) <| .take (.o 23 (.iadr 1) [.t 21, .t 22]) <| .alt (.l 20 19) ( .al (.l 24 23) ( .take (.o 25 (.bin .neq 1) [.t 20, .t 24]) <| .done)) <| .al (.l 24 23) ( .al (.l 20 19) ( .take (.o 25 (.bin .neq 1) [.t 20, .t 24]) <| .done)))) <| .cond (.t 25) ( .seq (.reg [.o 4 .mv [.kb false]]) <| .ret) ( .skip))) <| .reg [.m 15 5, .o 16 (.bin .add 0) [.t 15, .k 1], .m 5 16]
def HL : ACode := .seq (.reg [.o 4 .mv [.kb false]]) <| .seq (.seq (.reg [.m 6 0, .n 7 6, .m 8 1, .n 9 8, .o 10 (.bin .neq 0) [.t 7, .t 9]]) <| .cond (.t 10) ( .seq (.reg [.o 4 .mv [.kb false]]) <| .ret) ( .skip)) <| .seq (.seq (.reg [.o 5 .mv [.k 0]]) <| .block 0 ( .loop [(0, 1), (1, 1)] [0, 1, 5] DT)) <| .seq (.reg [.o 4 .mv [.kb true]]) <| .ret
theorem S7 : cFn Tryz.prog L8 26 [.t 4] HL := ⟨Tryz.f33, _, Tryz.func33, rfl, by kernel_rfl, by kernel_rfl, by kernel_rfl, by kernel_rfl⟩
@[simp] abbrev Nc : Nat := 96
def F2 : ACode := .seq (.seq (.reg [.m 6 0, .o 7 (.bin .gtr 0) [.t 6, .k 0]]) <| .cond (.t 7) ( .skip) ( .exit 0)) <| .block 1 ( .seq (.reg [.m 8 0, .o 9 (.bin .rem 0) [.t 8, .k 10], .o 10 (.bin .add 0) [.k 48, .t 9], .o 11 (.conv .u8) [.t 10], .o 12 (.bsl 1) [.t 11], .o 13 .str [.t 12], .m 14 3, .o 15 (.bin .add 1) [.t 13, .t 14], .m 3 15]) <| .reg [.m 16 0, .o 17 (.bin .quo 0) [.t 16, .k 10], .m 0 17])
def Nd : ACode := .seq (.reg [.o 2 .mv [.c (.v (.string ⟨#[]⟩))]]) <| .seq (.seq (.reg [.m 4 0, .o 5 (.bin .leq 0) [.t 4, .k 0]]) <| .cond (.t 5) ( .seq (.reg [.o 2 .mv [.c (.v (.string ⟨#[109, 48]⟩))]]) <| .ret) ( .skip)) <| .seq (.reg [.o 3 .mv [.c (.v (.string ⟨#[]⟩))]]) <| .seq (.block 0 ( .loop [] [0, 3] F2)) <| .seq (.reg [.m 18 3, .o 19 (.bin .add 1) [.c (.v (.string ⟨#[109]⟩)), .t 18], .m 2 19]) <| .ret
theorem U0 : cFn Tryz.prog Nc 20 [.t 2] Nd := ⟨Tryz.f96, _, Tryz.func96, rfl, by kernel_rfl, by kernel_rfl, by kernel_rfl, by kernel_rfl⟩
@[simp] abbrev D0 : Nat := 34
def EK : ACode := .seq (.seq (.reg [.m 6 5, .m 7 0, .n 8 7, .o 9 (.bin .lss 0) [.t 6, .t 8]]) <| .cond (.t 9) ( .skip) ( .exit 0)) <| .seq (.block 1 ( .seq (.reg [.m 12 0, .m 13 5, .m 14 1, .o 15 (.call 96 []) [.t 14], .o 16 (.iadr 1) [.t 12, .t 13], .s (.store 1) [.t 16, .t 15]]) <| .reg [.m 17 1, .o 18 (.bin .add 0) [.t 17, .k 1], .m 1 18])) <| .reg [.m 10 5, .o 11 (.bin .add 0) [.t 10, .k 1], .m 5 11]
def Jy : ACode := .seq (.reg [.o 4 .mv [.k 0]]) <| .seq (.seq (.reg [.o 5 .mv [.k 0]]) <| .block 0 ( .loop [(0, 1)] [0, 1, 5, 20] EK)) <| .seq (.reg [.m 19 1, .m 4 19]) <| .ret
theorem Q7 : cFn Tryz.prog D0 20 [.t 4] Jy := ⟨Tryz.f34, _, Tryz.func34, rfl, by kernel_rfl, by kernel_rfl, by kernel_rfl, by kernel_rfl⟩
@[simp] abbrev Jz : Nat := 35
def EL : ACode := .seq (.seq (.reg [.m 6 5, .m 7 0, .n 8 7, .o 9 (.bin .lss 0) [.t 6, .t 8]]) <| .cond (.t 9) ( .skip) ( .exit 0)) <| .seq (.block 1 ( .seq (.seq (.draw ( .take (.m 12 0) <| .take (.m 13 5) <| .take (.o 14 (.iadr 1) [.t 12, .t 13]) <| .take (.m 16 1) <| .alt (.l 15 14) ( .al (.o 17 (.call 96 []) [.t 16]) ( .take (.o 18 (.bin .neq 1) [.t 15, .t 17]) <| .done)) <| .al (.o 17 (.call 96 []) [.t 16]) ( .al (.l 15 14) ( .take (.o 18 (.bin .neq 1) [.t 15, .t 17]) <| .done)))) <| .cond (.t 18) ( .seq (.reg [.o 4 .mv [.k (-1)]]) <| .ret) ( .skip)) <| .reg [.m 19 1, .o 20 (.bin .add 0) [.t 19, .k 1], .m 1 20])) <| .reg [.m 10 5, .o 11 (.bin .add 0) [.t 10, .k 1], .m 5 11]
def J0 : ACode := .seq (.reg [.o 4 .mv [.k 0]]) <| .seq (.seq (.reg [.o 5 .mv [.k 0]]) <| .block 0 ( .loop [(0, 1)] [0, 1, 5] EL)) <| .seq (.reg [.m 21 1, .m 4 21]) <| .ret
theorem Q8 : cFn Tryz.prog Jz 22 [.t 4] J0 := ⟨Tryz.f35, _, Tryz.func35, rfl, by kernel_rfl, by kernel_rfl, by kernel_rfl, by kernel_rfl⟩
@[simp] abbrev EM : Nat := 6
def C4 : ACode := .seq (.seq (.reg [.m 60 9, .m 61 1, .o 62 (.call 31 []) [.t 61], .o 63 (.call 33 []) [.t 60, .t 62], .o 64 (.un .not) [.t 63]]) <| .cond (.t 64) ( .seq (.reg [.o 4 .mv [.kb false]]) <| .ret) ( .skip)) <| .seq (.reg [.o 12 .mv [.k 1]]) <| .seq (.reg [.la 65 6 8, .m 66 12, .o 67 (.call 27 []) [.t 65, .t 66], .m 12 67]) <| .seq (.reg [.m 68 9, .m 69 12, .o 70 (.call 34 []) [.t 68, .t 69], .m 12 70]) <| .seq (.seq (.reg [.m 71 12, .o 72 (.bin .lss 0) [.t 71, .k 0], .m 73 72, .g 74 (.load true 6) [.t 10] 73 false, .g 75 (.load true 6) [.t 6] 73 false, .g 76 (.call 26 []) [.t 74, .t 75] 73 false, .g 77 (.un .not) [.t 76] 73 false, .o 78 .pick [.t 73, .kb true, .t 77], .m 79 78, .mg 80 11 79 false, .mg 81 7 79 false, .g 82 (.call 33 []) [.t 80, .t 81] 79 false, .g 83 (.un .not) [.t 82] 79 false, .o 84 .pick [.t 79, .kb true, .t 83]]) <| .cond (.t 84) ( .seq (.reg [.o 4 .mv [.kb false]]) <| .ret) ( .skip)) <| .seq (.reg [.o 13 .mv [.k 1]]) <| .seq (.reg [.la 85 6 10, .m 86 13, .o 87 (.call 27 []) [.t 85, .t 86], .m 13 87]) <| .seq (.reg [.m 88 11, .m 89 13, .o 90 (.call 34 []) [.t 88, .t 89], .m 13 90]) <| .seq (.reg [.o 14 .mv [.k 1]]) <| .seq (.reg [.la 91 6 10, .m 92 14, .o 93 (.call 28 []) [.t 91, .t 92], .m 14 93]) <| .seq (.seq (.reg [.m 94 14, .o 95 (.bin .lss 0) [.t 94, .k 0]]) <| .cond (.t 95) ( .seq (.reg [.o 4 .mv [.kb false]]) <| .ret) ( .skip)) <| .seq (.reg [.m 96 11, .m 97 14, .o 98 (.call 35 []) [.t 96, .t 97], .m 14 98]) <| .seq (.seq (.reg [.m 99 14, .o 100 (.bin .lss 0) [.t 99, .k 0]]) <| .cond (.t 100) ( .seq (.reg [.o 4 .mv [.kb false]]) <| .ret) ( .skip)) <| .seq (.seq (.reg [.m 101 14, .m 102 13, .o 103 (.bin .neq 0) [.t 101, .t 102]]) <| .cond (.t 103) ( .seq (.reg [.o 4 .mv [.kb false]]) <| .ret) ( .skip)) <| .seq (.reg [.la 105 6 2, .o 106 (.call 25 []) [.t 105], .m 107 1, .o 108 (.call 31 []) [.t 107], .o 109 (.call 32 []) [.t 106, .t 108], .m 104 109, .e 110 0 104, .e 111 1 104, .o 15 (.alloc bz) [], .s (.store 6) [.t 15, .t 110], .m 16 111]) <| .seq (.seq (.reg [.la 112 6 15, .la 113 6 6, .o 114 (.call 26 []) [.t 112, .t 113], .o 115 (.un .not) [.t 114], .m 116 115, .mg 117 16 116 false, .mg 118 7 116 false, .g 119 (.call 33 []) [.t 117, .t 118] 116 false, .g 120 (.un .not) [.t 119] 116 false, .o 121 .pick [.t 116, .kb true, .t 120]]) <| .cond (.t 121) ( .seq (.reg [.o 4 .mv [.kb false]]) <| .ret) ( .skip)) <| .seq (.reg [.o 14 .mv [.k 1]]) <| .seq (.reg [.la 122 6 10, .m 123 14, .o 124 (.call 28 []) [.t 122, .t 123], .m 14 124]) <| .seq (.seq (.reg [.m 125 14, .o 126 (.bin .lss 0) [.t 125, .k 0]]) <| .cond (.t 126) ( .seq (.reg [.o 4 .mv [.kb false]]) <| .ret) ( .skip)) <| .seq (.reg [.m 127 11, .m 128 14, .o 129 (.call 35 []) [.t 127, .t 128], .m 14 129]) <| .seq (.seq (.reg [.m 130 14, .o 131 (.bin .lss 0) [.t 130, .k 0]]) <| .cond (.t 131) ( .seq (.reg [.o 4 .mv [.kb false]]) <| .ret) ( .skip)) <| .seq (.seq (.reg [.m 132 14, .m 133 13, .o 134 (.bin .neq 0) [.t 132, .t 133]]) <| .cond (.t 134) ( .seq (.reg [.o 4 .mv [.kb false]]) <| .ret) ( .skip)) <| .seq (.reg [.o 4 .mv [.kb true]]) <| .ret
abbrev C5 : Plan := .al (.o 58 (.call 26 []) [.t 55, .t 57]) ( .take (.o 59 (.un .not) [.t 58]) <| .done)
def Cf : ACode := .seq (.reg [.o 2 .box [.t 0], .o 4 .mv [.kb false]]) <| .seq (.reg [.o 5 .mv [.k 1048576]]) <| .seq (.reg [.la 17 6 2, .m 18 5, .o 19 (.call 23 []) [.t 17, .t 18], .m 5 19]) <| .seq (.seq (.reg [.m 20 5, .o 21 (.bin .lss 0) [.t 20, .k 0]]) <| .cond (.t 21) ( .seq (.reg [.o 4 .mv [.kb true]]) <| .ret) ( .skip)) <| .seq (.reg [.m 22 1, .m 23 5, .o 24 (.call 29 []) [.t 22, .t 23], .m 5 24]) <| .seq (.seq (.reg [.m 25 5, .o 26 (.bin .lss 0) [.t 25, .k 0]]) <| .cond (.t 26) ( .seq (.reg [.o 4 .mv [.kb true]]) <| .ret) ( .skip)) <| .seq (.reg [.la 28 6 2, .o 29 (.call 25 []) [.t 28], .m 30 1, .o 31 (.call 31 []) [.t 30], .o 32 (.call 30 []) [.t 29, .t 31], .m 27 32, .e 33 0 27, .e 34 1 27, .o 6 (.alloc bz) [], .s (.store 6) [.t 6, .t 33], .m 7 34]) <| .seq (.reg [.la 35 6 2, .o 36 (.call 25 []) [.t 35], .o 8 (.alloc bz) [], .s (.store 6) [.t 8, .t 36]]) <| .seq (.reg [.m 37 1, .o 38 (.call 31 []) [.t 37], .m 9 38]) <| .seq (.reg [.la 40 6 8, .m 41 9, .o 42 (.call 32 []) [.t 40, .t 41], .m 39 42, .e 43 0 39, .e 44 1 39, .o 10 (.alloc bz) [], .s (.store 6) [.t 10, .t 43], .m 11 44]) <| .seq (.seq (.reg [.la 45 6 10, .la 46 6 6, .o 47 (.call 26 []) [.t 45, .t 46], .o 48 (.un .not) [.t 47], .m 49 48, .mg 50 11 49 false, .mg 51 7 49 false, .g 52 (.call 33 []) [.t 50, .t 51] 49 false, .g 53 (.un .not) [.t 52] 49 false, .o 54 .pick [.t 49, .kb true, .t 53]]) <| .cond (.t 54) ( .seq (.reg [.o 4 .mv [.kb false]]) <| .ret) ( .skip)) <| .seq (.seq (.draw ( .alt (.la 55 6 8) ( .al (.la 56 6 2) ( .al (.o 57 (.call 25 []) [.t 56]) C5)) <| .al (.la 56 6 2) ( .alt (.la 55 6 8) ( .al (.o 57 (.call 25 []) [.t 56]) C5) <| .al (.o 57 (.call 25 []) [.t 56]) ( .al (.la 55 6 8) C5)))) <| .cond (.t 59) ( .seq (.reg [.o 4 .mv [.kb false]]) <| .ret) ( .skip)) <| .gc [] [1, 2, 6, 7, 8, 9, 10, 11] C4
theorem EN : cFn Tryz.prog EM 135 [.t 4] Cf := ⟨Tryz.f6, _, Tryz.func6, rfl, by kernel_rfl, by kernel_rfl, by kernel_rfl, by kernel_rfl⟩
theorem U1 (n : Nat) : ∀ ps : List (List Int), (∀ p ∈ ps, p.length ≤ n) → Dn ps ≤ ps.length * n
 | [], _ => by simp [Dn]
 | p :: ps, h => by
   have h1 := h p (by simp)
   have h2 := U1 n ps fun q hq => h q (by simp [hq])
   simp only [Dn, List.map_cons, List.sum_cons, List.length_cons] at *
   rw [Nat.add_mul]
   omega
set_option maxHeartbeats 4000000 in
theorem K4 (W T : Int) (cs : List Bool) (ds ls : List Int) (ps : List (List Int)) (s : List UInt8) (W2 T2 : Int) (cs2 : List Bool) (ds2 ls2 : List Int) (ps2 : List (List Int)) (a : List UInt8) (hc : cs.length < 2 ^ 21) (hd : ds.length < 2 ^ 21) (hl : ls.length < 2 ^ 21) (hs : Dn ps < 2 ^ 50) (hb : ps.length < 2 ^ 40) (hp : ∀ p ∈ ps, p.length < 2 ^ 40)
  (hc2 : cs2.length ≤ 40) (hd2 : ds2.length ≤ 40) (hl2 : ls2.length ≤ 40) (hb2 : ps2.length ≤ 40) (hp2 : ∀ p ∈ ps2, p.length ≤ 40) (hs2 : Dn ps2 < 2 ^ 50) (h3 : ¬ (1048576 : Int) < UL cs ds ls ps) (h4 : ¬ (1048576 : Int) < (s.length : Int))
  (sp : SoundAt Tryz.prog Ah [bkA W T cs ds ls ps, .v (tx s)] (.tup [bkO W2 T2 cs2 ds2 ls2 ps2, .v (tx a)]) [.bot, .bot])
  (im : SoundAt Tryz.prog I5 [bkA W T cs ds ls ps, .v (tx s)] (.tup [bkO W2 T2 cs2 ds2 ls2 ps2, .v (tx a)]) [.bot, .bot]) :
  SoundAt Tryz.prog Dh [bkA W T cs ds ls ps, .v (tx s)] (.v (.bool true)) [.bot, .bot] := by
 have hp2' : ∀ p ∈ ps2, p.length < 2 ^ 40 := fun p h => by have := hp2 p h; omega
 have tob := QW W T cs ds ls ps (by omega) (by omega) (by omega) (by omega) hp
 have eqb := Hi W T cs ds ls ps (by omega) (by omega) (by omega) (by omega) hp
 have eqb2 := Hi W2 T2 cs2 ds2 ls2 ps2 (by omega) (by omega) (by omega) (by omega) hp2'
 have mk := Fs W T cs ds ls ps 1 (by omega) (by omega) hc hd hl hs hb hp
 have mk2 := Fs W2 T2 cs2 ds2 ls2 ps2 1 (by omega) (by omega) (by omega) (by omega) (by omega) hs2 (by omega) hp2'
 have held := NJ W2 T2 cs2 ds2 ls2 ps2 1 (by omega) (by omega) (by omega) (by omega) (by omega) hs2 (by omega) hp2'
 have hk : ¬ XY 1 cs ds ls ps < 0 := by unfold XY; omega
 have hk2 : ¬ XY 1 cs2 ds2 ls2 ps2 < 0 := by unfold XY; omega
 have fin : awp Tryz.prog md3 Cl (Fin [RV.t 4] 104 2 [false, false] (.v (.bool true)) [.bot, .bot])
   [(1, .v (tx s)), (2, .lp 0 0 0 0), (6, .lp 0 1 0 0), (7, .v (tx a)), (8, .lp 0 2 0 0), (9, .lp 0 3 0 0), (10, .v (tx a))]
   [some (.box [.v (.int .i64 W), .v (.int .i64 T), .sl 1 1 (AC cs), .sl 1 1 (AB ds), .sl 1 1 (AB ls), .sl 1 1 (sls 1 ps)]), some (.box (dl 4 W2 T2 cs2 ds2 ls2 ps2)), some (.box (dl 8 W T cs ds ls ps)), some (.box (dl 12 W2 T2 cs2 ds2 ls2 ps2)),
    some (.arr 1 (AC cs2)), some (.arr 1 (AB ds2)), some (.arr 1 (AB ls2)), some (.arr 1 (oss ps2)), some (.arr 1 (AC cs)), some (.arr 1 (AB ds)), some (.arr 1 (AB ls)), some (.arr 1 (oss ps)), some (.arr 1 (AC cs2)), some (.arr 1 (AB ds2)), some (.arr 1 (AB ls2)), some (.arr 1 (oss ps2))] := by
  simp [Cl]
  refine AA mk ?_
  simp [hk]
  refine AA eqb2 ?_
  simp
  refine AA mk2 ?_
  simp
  refine AA held ?_
  simp [hk2]
  refine AA tob ?_
  simp
  refine AA im ?_
  simp
  refine AA eqb2 ?_
  simp
  refine AA held ?_
  simp [hk2]
 simp only [dl] at fin
 refine AE (md := md3) (ms := [false, false]) Di (by simp) ?_
 simp [CH, h4]
 refine AA (Fc W T cs ds ls ps 1048576 (by omega) (by omega) (by omega) (by omega) (by omega) (by omega) (fun p h => by have := hp p h; omega)) ?_
 have hn : ¬ VQ 1048576 (UL cs ds ls ps) < 0 := by unfold VQ; split <;> omega
 simp [hn]
 refine AA tob ?_
 simp
 refine AA sp ?_
 simp
 refine AA tob ?_
 simp
 refine AA im ?_
 simp
 refine AA eqb2 ?_
 simp
 (repeat' first | omega | apply And.intro) <;>
 ·refine AA tob ?_
  simp
  refine AA eqb ?_
  simp
  exact fin
theorem eP {W T : Int} {cs : List Bool} {ds ls : List Int} {ps : List (List Int)} (h : Am W T cs ds ls ps = true) : cs.length ≤ 40 ∧ ds.length ≤ 40 ∧ ls.length ≤ 40 ∧ ps.length ≤ 40 ∧ (∀ p ∈ ps, p.length ≤ 40) ∧ Dn ps < 2 ^ 50 := by
 obtain ⟨hc, hd, hl, hb, hp, _⟩ := F1 h
 have := U1 40 ps hp
 exact ⟨by omega, by omega, by omega, by omega, hp, by omega⟩
theorem R1 (W T : Int) (cs : List Bool) (ds ls : List Int) (ps : List (List Int)) (s : List UInt8) (hc : cs.length ≤ 9223372036854775807) (hd : ds.length ≤ 9223372036854775807) (hl : ls.length ≤ 9223372036854775807) (hb : ps.length ≤ 9223372036854775807) (hp : ∀ p ∈ ps, p.length ≤ 9223372036854775807) (hs : s.length ≤ 9223372036854775807) :
  SoundAt Tryz.prog Dh [bkA W T cs ds ls ps, .v (tx s)] (.v (.bool true)) [.bot, .bot] := by
 by_cases h4 : (1048576 : Int) < (s.length : Int)
 ·refine AE (md := md3) (ms := [false, false]) Di (by simp) ?_
  simp [CH, h4]
 by_cases h3 : (1048576 : Int) < UL cs ds ls ps
 ·refine AE (md := md3) (ms := [false, false]) Di (by simp) ?_
  simp [CH, h4]
  refine AA (Fc W T cs ds ls ps 1048576 (by omega) (by omega) hc hd hl hb hp) ?_
  simp [VQ, h3]
 obtain ⟨c1, c2, c3, c4, c5⟩ := gx (cs := cs) (ds := ds) (ls := ls) (ps := ps) (n := 1048576) (by omega)
 have c5' : ∀ p ∈ ps, p.length < 2 ^ 40 := fun p hp => by have := c5 p hp; omega
 have c5'' : ∀ p ∈ ps, p.length ≤ 2 ^ 30 := fun p hp => by have := c5 p hp; omega
 have hsum : Dn ps < 2 ^ 50 := by
  have : UL cs ds ls ps ≤ 1048576 := by omega
  unfold UL at this; omega
 have sp := Nb W T cs ds ls ps s (by omega) (by omega) (by omega) (by omega) c5'' (by omega)
 have im := Uz W T cs ds ls ps s (by omega) (by omega) (by omega) (by omega) c5'' (by omega)
 unfold WN at sp im
 cases ok : Am W T cs ds ls ps with
 | false =>
   rw [ok] at sp im
   exact K4 W T cs ds ls ps s 0 0 [] [] [] [] [] (by omega) (by omega) (by omega) hsum (by omega) c5' (by simp) (by simp) (by simp) (by simp) (by simp) (by simp [Dn]) h3 h4 sp im
 | true =>
   rw [ok] at sp im
   obtain ⟨b1, b2, b3, b4, b5, b6⟩ := eP (Xb s ok)
   exact K4 W T cs ds ls ps s W T cs ds _ _ _ (by omega) (by omega) (by omega) hsum (by omega) c5' b1 b2 b3 b4 b5 b6 h3 h4 sp im
@[simp] def mdS (f : Nat) : List Bool := if f = D0 then [true, false] else []
def PL : List (List UInt8) → Nat
 | [] => 0
 | x :: xs => x.length + PL xs
theorem Yq (x : List UInt8) : ∀ xs : List (List UInt8), PL (xs ++ [x]) = PL xs + x.length
 | [] => by simp [PL]
 | y :: ys => by simp [PL, Yq x ys]; omega
theorem eQ (ls : List (List UInt8)) {i : Nat} (h : i < ls.length) : PL (ls.take (i + 1)) = PL (ls.take i) + ls[i].length := by
 rw [List.take_succ_eq_append_getElem h, Yq]
theorem Xh : ∀ {ls : List (List UInt8)} {x : List UInt8}, x ∈ ls → x.length ≤ PL ls
 | y :: ys, x, h => by
   rcases List.mem_cons.1 h with rfl | h
   ·simp [PL]
   ·have := Xh h; simp [PL]; omega
theorem jx (ls : List (List UInt8)) : ∀ i : Nat, PL (ls.take i) ≤ PL ls := by
 induction ls with
 | nil => simp [PL]
 | cons x xs ih => intro i; cases i with
   | zero => simp [PL]
   | succ i => have := ih i; simp [PL]; omega
theorem U2 {ls : List (List UInt8)} {i : Nat} (h : i < ls.length) : att ls (i : Int) = ls[i] := by simp [att, h]
theorem L9 (ls : List (List UInt8)) (n : Nat) (hn : n ≤ 2 ^ 20) (hl : ls.length ≤ 9223372036854775807) (hx : ∀ x ∈ ls, x.length ≤ 9223372036854775807) :
  SoundAt Tryz.prog L5 [.sl 1 1 (txs ls), .v (.int .i64 (n : Int))] (.v (.int .i64 (if ls.length + PL ls ≤ n then ((n - ls.length - PL ls : Nat) : Int) else -1))) [.bot, .bot] := by
 refine AE (md := mdS) (ms := [false, false]) S5 (by simp) ?_
 by_cases h0 : ls.length ≤ n
 case neg =>
  have h1 : (n : Int) - (ls.length : Int) < 0 := by omega
  have h2 : ¬ ls.length + PL ls ≤ n := by omega
  simp [HK, h1, h2]
  omega
 have h1 : ¬ (n : Int) - (ls.length : Int) < 0 := by omega
 simp [HK, h1]
 refine ⟨by omega, ?_⟩
 refine AF (fun m E H => ∃ i : Nat, m = ls.length - i ∧ i ≤ ls.length ∧ ls.length + PL (ls.take i) ≤ n ∧ H = [] ∧ E = [(0, .sl 1 1 (txs ls)), (1, .v (.int .i64 ((n : Int) - ls.length - PL (ls.take i)))), (5, .v (.int .i64 i))]) ls.length ⟨0, rfl, by omega, by simp [PL]; omega, rfl, by simp [PL]⟩ ?_
 rintro J hJ m E H ⟨i, rfl, hi, hle, rfl, rfl⟩
 by_cases h : i < ls.length
 ·have ht := eQ ls h
  have hx1 := hx ls[i] (List.getElem_mem h)
  have hat := U2 h
  by_cases h2 : ls.length + PL (ls.take (i + 1)) ≤ n
  ·have nx := hJ (ls.length - (i + 1)) [(0, .sl 1 1 (txs ls)), (1, .v (.int .i64 ((n : Int) - ls.length - PL (ls.take (i + 1))))), (5, .v (.int .i64 ((i : Int) + 1)))] [] ⟨i + 1, rfl, h, h2, rfl, by simp⟩
   rw [ht] at nx h2
   have h3 : ¬ (n : Int) - ls.length - PL (ls.take i) - ls[i].length < 0 := by omega
   simp [DS, h, hat, h3]
   rw [show (n : Int) - ls.length - (PL (ls.take i) + ls[i].length : Nat) = (n : Int) - ls.length - PL (ls.take i) - ls[i].length by omega] at nx
   exact ⟨by omega, by omega, _, by omega, nx⟩
  ·rw [ht] at h2
   have h3 : (n : Int) - ls.length - PL (ls.take i) - ls[i].length < 0 := by omega
   have h4 := jx ls (i + 1)
   rw [ht] at h4
   have h5 : ¬ ls.length + PL ls ≤ n := by omega
   simp [DS, h, hat, h3, h5]
   omega
 ·have : i = ls.length := by omega
  subst this
  rw [List.take_length] at hle ⊢
  simp [DS, hle]
  omega
theorem S8 (ls : List (List UInt8)) (hl : ls.length ≤ 2 ^ 20) : SoundAt Tryz.prog L6 [.sl 1 1 (txs ls)] (.os 1 (txs ls)) [.bot] := by
 refine AE (md := mdS) (ms := [false]) S6 (by simp) ?_
 have hrep : ∀ n, List.replicate n (AV.v (.string ⟨#[]⟩)) = txs (List.replicate n []) := fun n => by simp [txs]
 simp [L7, hrep]
 refine ⟨by omega, ?_⟩
 refine AF (fun m E H => ∃ i : Nat, m = ls.length - i ∧ i ≤ ls.length ∧ H = [some (.arr 1 (txs (ls.take i ++ List.replicate (ls.length - i) [])))] ∧ E = [(0, .sl 1 1 (txs ls)), (3, .ls 1 0 0 ls.length), (4, .v (.int .i64 i))]) ls.length ⟨0, by simp⟩ ?_
 rintro J hJ m E H ⟨i, rfl, hi, rfl, rfl⟩
 have hlen : (ls.take i ++ List.replicate (ls.length - i) ([] : List UInt8)).length = ls.length := by simp; omega
 by_cases h : i < ls.length
 ·have hat := U2 h
  have st : (txs (ls.take i ++ List.replicate (ls.length - i) [])).set i (.v (tx ls[i])) = txs (ls.take (i + 1) ++ List.replicate (ls.length - (i + 1)) []) := by
   rw [txs, ← List.map_set, List.set_append_right _ _ (by simp; omega), List.length_take, Nat.min_eq_left (by omega), Nat.sub_self, show ls.length - i = (ls.length - (i + 1)) + 1 by omega, List.replicate_succ, List.set_cons_zero, List.take_succ_eq_append_getElem h]
   simp only [List.map_append, List.map_cons, List.map_replicate, List.map_nil, List.append_assoc, List.singleton_append, txs]
  have nx := hJ (ls.length - (i + 1)) [(0, .sl 1 1 (txs ls)), (3, .ls 1 0 0 ls.length), (4, .v (.int .i64 ((i : Int) + 1)))] [some (.arr 1 (txs (ls.take (i + 1) ++ List.replicate (ls.length - (i + 1)) [])))] ⟨i + 1, rfl, h, rfl, by simp⟩
  rw [← st] at nx
  generalize ls.take i ++ List.replicate (ls.length - i) ([] : List UInt8) = ys at *
  simp [FD, h, hat, hlen]
  exact ⟨by omega, _, by omega, nx⟩
 ·have : i = ls.length := by omega
  subst this
  simp [FD]
theorem MA (xs ys : List (List UInt8)) (ha : xs.length < 2 ^ 40) :
  SoundAt Tryz.prog L8 [.sl 1 1 (txs xs), .sl 1 1 (txs ys)] (.v (.bool (decide (xs = ys)))) [.bot, .bot] := by
 refine AE (md := mdS) (ms := [false, false]) S7 (by simp) ?_
 by_cases hl : xs.length = ys.length
 case neg =>
  have h1 : ¬ xs = ys := fun e => hl (by rw [e])
  have h2 : ¬ (xs.length : Int) = (ys.length : Int) := by omega
  simp [HL, h1, h2, hl]
 simp [HL, hl]
 refine AF (fun m E H => ∃ i : Nat, m = xs.length - i ∧ i ≤ xs.length ∧ xs.take i = ys.take i ∧ H = [] ∧ E = [(0, .sl 1 1 (txs xs)), (1, .sl 1 1 (txs ys)), (5, .v (.int .i64 i))]) xs.length ⟨0, by simp⟩ ?_
 rintro J hJ m E H ⟨i, rfl, hi, he, rfl, rfl⟩
 by_cases h : i < xs.length
 ·have h2 : i < ys.length := by omega
  have a1 := U2 h
  have a2 := U2 h2
  by_cases e : xs[i] = ys[i]
  ·have nx := hJ (xs.length - (i + 1)) [(0, .sl 1 1 (txs xs)), (1, .sl 1 1 (txs ys)), (5, .v (.int .i64 ((i : Int) + 1)))] [] ⟨i + 1, rfl, h, by rw [List.take_succ_eq_append_getElem h, List.take_succ_eq_append_getElem h2, he, e], rfl, by simp⟩
   simp [DT, h, h2, a1, a2, e]
   exact ⟨by omega, _, by omega, nx⟩
  ·have h1 : ¬ xs = ys := fun e2 => e (by subst e2; rfl)
   simp [DT, h, h2, a1, a2, e, h1]
 ·have : i = xs.length := by omega
  subst this
  rw [List.take_length, List.take_of_length_le (by omega)] at he
  simp [DT, he]
def gF (n : Nat) (acc : List UInt8) : List UInt8 := if h : n = 0 then acc else gF (n / 10) (b8 (48 + (n : Int) % 10) :: acc)
termination_by n
decreasing_by omega
def Zn (k : Int) : List UInt8 := 109 :: gF k.toNat []
theorem ah : ∀ (n : Nat) (acc : List UInt8), (gF n acc).length ≤ n + acc.length
 | 0, acc => by rw [gF]; simp
 | n + 1, acc => by
   rw [gF, dif_neg (by omega)]
   have := ah ((n + 1) / 10) (b8 (48 + ((n + 1 : Nat) : Int) % 10) :: acc)
   simp only [List.length_cons] at this
   omega
theorem Nf (k : Int) (h0 : 0 < k) (h1 : k < 2 ^ 40) : SoundAt Tryz.prog Nc [.v (.int .i64 k)] (.v (tx (Zn k))) [.bot] := by
 refine AE (md := mdS) (ms := [false]) U0 (by simp) ?_
 have h2 : ¬ k ≤ 0 := by omega
 simp [Nd, h2]
 refine AF (fun m E H => ∃ acc : List UInt8, m + acc.length ≤ k.toNat ∧ gF m acc = gF k.toNat [] ∧ H = [] ∧ E = [(0, .v (.int .i64 (m : Int))), (3, .v (tx acc))]) k.toNat ⟨[], by simp, rfl, rfl, by simp; omega⟩ ?_
 rintro J hJ m E H ⟨acc, hn, hd, rfl, rfl⟩
 by_cases h : 0 < m
 ·have nx := hJ (m / 10) [(0, .v (.int .i64 ((m : Int) / 10))), (3, .v (tx (b8 (48 + (m : Int) % 10) :: acc)))] [] ⟨b8 (48 + (m : Int) % 10) :: acc, by simp; omega, by rw [← hd]; conv => rhs; rw [gF, dif_neg (by omega)], rfl, by simp⟩
  have h3 : (0 : Int) < (m : Int) := by omega
  simp [F2, h, eu, u8L]
  exact ⟨⟨by omega, by omega⟩, ⟨by omega, by omega⟩, by omega, by omega, _, by omega, nx⟩
 ·have : m = 0 := by omega
  subst this
  rw [gF] at hd
  simp only [dite_true] at hd
  have hl := ah k.toNat []
  simp [F2, Zn, ← hd]
  omega
def Eb (n : Nat) (k : Int) : List (List UInt8) := (List.range n).map fun j : Nat => Zn (k + j)
@[simp] theorem gG (n : Nat) (k : Int) : (Eb n k).length = n := by simp [Eb]
theorem Zo {k : Int} {bs : List (List UInt8)} {i : Nat} (h : i < bs.length) : (Eb i k ++ bs.drop i).set i (Zn (k + (i : Nat))) = Eb (i + 1) k ++ bs.drop (i + 1) := by
 rw [Tz _ _ _ _ (by simp) h]
 simp [Eb, List.range_succ]
theorem bh {n : Nat} {k : Int} {i : Nat} (h : i < (Eb n k).length) : (Eb n k)[i] = Zn (k + (i : Int)) := by simp [Eb]
theorem jy (xs : List (List UInt8)) (i : Nat) (x : List UInt8) : (txs xs).set i (.v (tx x)) = txs (xs.set i x) := by simp [txs, List.map_set]
theorem J1 (bs : List (List UInt8)) (k : Int) (h0 : 0 < k) (h1 : k < 2 ^ 39) (hb : bs.length < 2 ^ 39) :
  SoundAt Tryz.prog D0 [.os 1 (txs bs), .v (.int .i64 k)] (.v (.int .i64 (k + bs.length))) [.os 1 (txs (Eb bs.length k)), .bot] := by
 refine AE (md := mdS) (ms := [true, false]) Q7 (by simp) ?_
 simp [Jy]
 refine AF (fun m E H => ∃ i : Nat, m = bs.length - i ∧ i ≤ bs.length ∧ H = [some (.arr 1 (txs (Eb i k ++ bs.drop i)))] ∧ E = [(0, .ls 1 0 0 bs.length), (1, .v (.int .i64 (k + i))), (5, .v (.int .i64 i)), (20, .ls 1 0 0 bs.length)]) bs.length ⟨0, by simp [Eb]⟩ ?_
 rintro J hJ m E H ⟨i, rfl, hi, rfl, rfl⟩
 have hlen : (Eb i k ++ bs.drop i).length = bs.length := by simp; omega
 by_cases h : i < bs.length
 ·have st := Zo (k := k) h
  have mk := Nf (k + i) (by omega) (by omega)
  have nx := hJ (bs.length - (i + 1)) [(0, .ls 1 0 0 bs.length), (1, .v (.int .i64 (k + i + 1))), (5, .v (.int .i64 ((i : Int) + 1))), (20, .ls 1 0 0 bs.length)] [some (.arr 1 (txs (Eb (i + 1) k ++ bs.drop (i + 1))))] ⟨i + 1, rfl, h, rfl, by simp; omega⟩
  rw [← st, ← jy] at nx
  generalize Eb i k ++ bs.drop i = ys at *
  generalize Zn (k + i) = t at *
  simp [EK, h]
  refine AA mk ?_
  simp [h, hlen]
  exact ⟨by omega, by omega, _, by omega, nx⟩
 ·have : i = bs.length := by omega
  subst this
  have e : (txs (Eb bs.length k)).take bs.length = txs (Eb bs.length k) := List.take_of_length_le (by simp)
  simp [EK, e]
theorem Q9 (n : Nat) (k : Int) (h0 : 0 < k) (h1 : k < 2 ^ 39) (hn : n < 2 ^ 39) : SoundAt Tryz.prog Jz [.sl 1 1 (txs (Eb n k)), .v (.int .i64 k)] (.v (.int .i64 (k + n))) [.bot, .bot] := by
 refine AE (md := mdS) (ms := [false, false]) Q8 (by simp) ?_
 simp [J0]
 refine AF (fun m E H => ∃ i : Nat, m = n - i ∧ i ≤ n ∧ H = [] ∧ E = [(0, .sl 1 1 (txs (Eb n k))), (1, .v (.int .i64 (k + i))), (5, .v (.int .i64 i))]) n ⟨0, by simp⟩ ?_
 rintro J hJ m E H ⟨i, rfl, hi, rfl, rfl⟩
 by_cases h : i < n
 ·have hl : i < (Eb n k).length := by simpa using h
  have hx := bh hl
  have hat := U2 hl
  rw [hx] at hat
  have mk := Nf (k + i) (by omega) (by omega)
  have nx := hJ (n - (i + 1)) [(0, .sl 1 1 (txs (Eb n k))), (1, .v (.int .i64 (k + i + 1))), (5, .v (.int .i64 ((i : Int) + 1)))] [] ⟨i + 1, rfl, h, rfl, by simp; omega⟩
  generalize Zn (k + i) = t at *
  simp [EL, h, hat]
  (repeat' first | omega | apply And.intro) <;>
  ·refine AA mk ?_
   simp [hat, h]
   exact ⟨by omega, by omega, _, by omega, nx⟩
 ·have : i = n := by omega
  subst this
  simp [EL]
@[simp] def mdM (f : Nat) : List Bool := if f = D0 then [true, false] else md3 f
theorem ai {cs : List Bool} {ds ls : List Int} {ps : List (List Int)} (hc : cs.length < 2 ^ 21) (hd : ds.length < 2 ^ 21) (hl : ls.length < 2 ^ 21) (hs : Dn ps < 2 ^ 21) : 0 < XY 1 cs ds ls ps ∧ XY 1 cs ds ls ps < 2 ^ 38 := by
 unfold XY
 omega
set_option maxHeartbeats 8000000 in
theorem MB (W T : Int) (cs : List Bool) (ds ls : List Int) (ps : List (List Int)) (xs : List (List UInt8)) (W2 T2 : Int) (cs2 : List Bool) (ds2 ls2 : List Int) (ps2 : List (List Int)) (a : List (List UInt8)) (hc : cs.length < 2 ^ 21) (hd : ds.length < 2 ^ 21) (hl : ls.length < 2 ^ 21) (hs : Dn ps < 2 ^ 21) (hb : ps.length < 2 ^ 40) (hp : ∀ p ∈ ps, p.length < 2 ^ 40)
  (hc2 : cs2.length ≤ 40) (hd2 : ds2.length ≤ 40) (hl2 : ls2.length ≤ 40) (hb2 : ps2.length ≤ 40) (hp2 : ∀ p ∈ ps2, p.length ≤ 40) (hs2 : Dn ps2 < 2 ^ 21) (h3 : ¬ (1048576 : Int) < UL cs ds ls ps) (h4 : xs.length + PL xs ≤ 1048576 - UL cs ds ls ps) (ha : a.length ≤ 2 ^ 20)
  (sp : SoundAt Tryz.prog J9 [bkA W T cs ds ls ps, .sl 1 1 (txs xs)] (.tup [bkO W2 T2 cs2 ds2 ls2 ps2, .os 1 (txs a)]) [.bot, .bot])
  (im : SoundAt Tryz.prog KA [bkA W T cs ds ls ps, .sl 1 1 (txs xs)] (.tup [bkO W2 T2 cs2 ds2 ls2 ps2, .os 1 (txs a)]) [.bot, .bot]) :
  SoundAt Tryz.prog EM [bkA W T cs ds ls ps, .sl 1 1 (txs xs)] (.v (.bool true)) [.bot, .bot] := by
 have hp2' : ∀ p ∈ ps2, p.length < 2 ^ 40 := fun p h => by have := hp2 p h; omega
 have tob := QW W T cs ds ls ps (by omega) (by omega) (by omega) (by omega) hp
 have tos := S8 xs (by omega)
 have eqb := Hi W T cs ds ls ps (by omega) (by omega) (by omega) (by omega) hp
 have eqs := MA xs xs (by omega)
 have eqa := MA a a (by omega)
 have eqb2 := Hi W2 T2 cs2 ds2 ls2 ps2 (by omega) (by omega) (by omega) (by omega) hp2'
 have mk := Fs W T cs ds ls ps 1 (by omega) (by omega) hc hd hl (by omega) hb hp
 have mk2 := Fs W2 T2 cs2 ds2 ls2 ps2 1 (by omega) (by omega) (by omega) (by omega) (by omega) (by omega) (by omega) hp2'
 have held := NJ W2 T2 cs2 ds2 ls2 ps2 1 (by omega) (by omega) (by omega) (by omega) (by omega) (by omega) (by omega) hp2'
 obtain ⟨m0, m1⟩ := ai hc hd hl hs
 obtain ⟨m2, m3⟩ := ai (cs := cs2) (ds := ds2) (ls := ls2) (ps := ps2) (by omega) (by omega) (by omega) hs2
 have mks := J1 xs (XY 1 cs ds ls ps) m0 (by omega) (by omega)
 have mka := J1 a (XY 1 cs2 ds2 ls2 ps2) m2 (by omega) (by omega)
 have hda := Q9 a.length (XY 1 cs2 ds2 ls2 ps2) m2 (by omega) (by omega)
 have szs := L9 xs (1048576 - UL cs ds ls ps) (by omega) (by omega) (fun x hx => by have := Xh hx; omega)
 rw [if_pos h4] at szs
 have tka : (txs a).take a.length = txs a := List.take_of_length_le (by simp)
 have tkx : (txs xs).take xs.length = txs xs := List.take_of_length_le (by simp)
 have mk0 : ¬ XY 1 cs ds ls ps + (xs.length : Int) < 0 := by omega
 have mk3 : ¬ XY 1 cs2 ds2 ls2 ps2 < 0 := by omega
 have mk4 : ¬ XY 1 cs2 ds2 ls2 ps2 + (a.length : Int) < 0 := by omega
 have tkm : (txs (Eb a.length (XY 1 cs2 ds2 ls2 ps2))).take a.length = txs (Eb a.length (XY 1 cs2 ds2 ls2 ps2)) := List.take_of_length_le (by simp)
 have fin : awp Tryz.prog mdM C4 (Fin [RV.t 4] 135 2 [false, false] (.v (.bool true)) [.bot, .bot])
   [(1, .sl 1 1 (txs xs)), (2, .lp 0 0 0 0), (6, .lp 0 1 0 0), (7, .ls 1 2 0 a.length), (8, .lp 0 3 0 0), (9, .ls 1 4 0 xs.length), (10, .lp 0 5 0 0), (11, .ls 1 6 0 a.length)]
   [some (.box [.v (.int .i64 W), .v (.int .i64 T), .sl 1 1 (AC cs), .sl 1 1 (AB ds), .sl 1 1 (AB ls), .sl 1 1 (sls 1 ps)]), some (.box (dl 7 W2 T2 cs2 ds2 ls2 ps2)), some (.arr 1 (txs a)), some (.box (dl 11 W T cs ds ls ps)), some (.arr 1 (txs xs)), some (.box (dl 15 W2 T2 cs2 ds2 ls2 ps2)), some (.arr 1 (txs a)),
    some (.arr 1 (AC cs2)), some (.arr 1 (AB ds2)), some (.arr 1 (AB ls2)), some (.arr 1 (oss ps2)), some (.arr 1 (AC cs)), some (.arr 1 (AB ds)), some (.arr 1 (AB ls)), some (.arr 1 (oss ps)), some (.arr 1 (AC cs2)), some (.arr 1 (AB ds2)), some (.arr 1 (AB ls2)), some (.arr 1 (oss ps2))] := by
  simp [C4]
  refine AA tos ?_
  simp
  refine AA eqs ?_
  simp
  refine AA mk ?_
  simp
  refine AA mks ?_
  simp [mk0]
  refine AA eqb2 ?_
  simp
  refine AA eqa ?_
  simp
  refine AA mk2 ?_
  simp
  refine AA mka ?_
  simp
  refine AA held ?_
  simp [mk3, tkm]
  refine AA hda ?_
  simp [mk4, tkm]
  refine AA tob ?_
  simp
  refine AA tos ?_
  simp
  refine AA im ?_
  simp
  refine AA eqb2 ?_
  simp
  refine AA eqa ?_
  simp
  refine AA held ?_
  simp [mk3, tkm]
  refine AA hda ?_
  simp [mk4, tkm]
 simp only [dl] at fin
 refine AE (md := mdM) (ms := [false, false]) EN (by simp) ?_
 simp [Cf]
 refine AA (Fc W T cs ds ls ps 1048576 (by omega) (by omega) (by omega) (by omega) (by omega) (by omega) (fun p h => by have := hp p h; omega)) ?_
 have hn : VQ 1048576 (UL cs ds ls ps) = ((1048576 - UL cs ds ls ps : Nat) : Int) := by unfold VQ; split <;> omega
 simp only [hn]
 generalize 1048576 - UL cs ds ls ps = n at *
 simp
 refine AA szs ?_
 simp
 refine AA tob ?_
 simp
 refine AA tos ?_
 simp
 refine AA sp ?_
 simp
 refine AA tob ?_
 simp
 refine AA tos ?_
 simp
 refine AA im ?_
 simp
 refine AA eqb2 ?_
 simp
 refine AA eqa ?_
 simp
 (repeat' first | omega | apply And.intro) <;>
 ·refine AA tob ?_
  simp
  refine AA eqb ?_
  simp
  exact fin
theorem TA (W T : Int) (cs : List Bool) (ds ls : List Int) (ps : List (List Int)) (xs : List (List UInt8)) (hc : cs.length ≤ 9223372036854775807) (hd : ds.length ≤ 9223372036854775807) (hl : ls.length ≤ 9223372036854775807) (hb : ps.length ≤ 9223372036854775807) (hp : ∀ p ∈ ps, p.length ≤ 9223372036854775807) (hn : xs.length ≤ 9223372036854775807) (hx : ∀ x ∈ xs, x.length ≤ 9223372036854775807) :
  SoundAt Tryz.prog EM [bkA W T cs ds ls ps, .sl 1 1 (txs xs)] (.v (.bool true)) [.bot, .bot] := by
 by_cases h3 : (1048576 : Int) < UL cs ds ls ps
 ·refine AE (md := mdM) (ms := [false, false]) EN (by simp) ?_
  simp [Cf]
  refine AA (Fc W T cs ds ls ps 1048576 (by omega) (by omega) hc hd hl hb hp) ?_
  simp [VQ, h3]
 obtain ⟨c1, c2, c3, c4, c5⟩ := gx (cs := cs) (ds := ds) (ls := ls) (ps := ps) (n := 1048576) (by omega)
 by_cases h4 : xs.length + PL xs ≤ 1048576 - UL cs ds ls ps
 case neg =>
  have szs := L9 xs (1048576 - UL cs ds ls ps) (by omega) hn hx
  rw [if_neg h4] at szs
  refine AE (md := mdM) (ms := [false, false]) EN (by simp) ?_
  simp [Cf]
  refine AA (Fc W T cs ds ls ps 1048576 (by omega) (by omega) hc hd hl hb hp) ?_
  have hn : VQ 1048576 (UL cs ds ls ps) = ((1048576 - UL cs ds ls ps : Nat) : Int) := by unfold VQ; split <;> omega
  simp only [hn]
  generalize 1048576 - UL cs ds ls ps = n at *
  simp
  refine AA szs ?_
  simp
 have c5' : ∀ p ∈ ps, p.length < 2 ^ 40 := fun p hp => by have := c5 p hp; omega
 have c5'' : ∀ p ∈ ps, p.length ≤ 2 ^ 30 := fun p hp => by have := c5 p hp; omega
 have hsum : Dn ps < 2 ^ 21 := by
  have : UL cs ds ls ps ≤ 1048576 := by omega
  unfold UL at this; omega
 have hx' : ∀ x ∈ xs, x.length < 2 ^ 30 := fun x hx => by have := Xh hx; omega
 have sp := Vt W T cs ds ls ps xs (by omega) (by omega) (by omega) (by omega) c5'' (by omega) hx'
 have im := Vs W T cs ds ls ps xs (by omega) (by omega) (by omega) (by omega) c5'' (by omega) hx'
 unfold mU at sp im
 cases ok : eO W T cs ds ls ps xs with
 | false =>
   rw [ok] at sp im
   exact MB W T cs ds ls ps xs 0 0 [] [] [] [] [] (by omega) (by omega) (by omega) hsum (by omega) c5' (by simp) (by simp) (by simp) (by simp) (by simp) (by simp [Dn]) h3 h4 (by simp) sp im
 | true =>
   rw [ok] at sp im
   simp only [eO, Bool.and_eq_true] at ok
   have hok := iC xs ok.1
   obtain ⟨b1, b2, b3, b4, b5, _⟩ := F1 hok
   have b6 := U1 40 _ b5
   have b7 := eM (W := W) (T := T) (cs := cs) (ds := ds) xs ls ps
   exact MB W T cs ds ls ps xs W T cs ds _ _ _ (by omega) (by omega) (by omega) hsum (by omega) c5' (by omega) (by omega) (by omega) (by omega) b5 (by omega) h3 h4 (by omega) sp im
end Go.Proofs.Dev
