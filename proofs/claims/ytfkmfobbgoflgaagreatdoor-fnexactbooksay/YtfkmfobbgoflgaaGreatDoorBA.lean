/- Contracts of the functions of the program over slots and rows, each proved against the program itself; no condition beyond those that each theorem names. -/
import Derived.Test.YtfkmfobbgoflgaaGreatDoorAN
import Derived.Test.YtfkmfobbgoflgaaGreatDoorAZ
import Derived.Test.YtfkmfobbgoflgaaGreatDoorAI
import Derived.Test.YtfkmfobbgoflgaaGreatDoorProg
import Derived.Test.YtfkmfobbgoflgaaGreatDoorAV
import Derived.Test.YtfkmfobbgoflgaaGreatDoorAK
set_option linter.unusedSimpArgs false
set_option linter.unusedVariables false
set_option maxRecDepth 100000
namespace Go.Proofs.Dev
open Go.RowKit
@[simp] def mdL (f : Nat) : List Bool := if f = CC then [true] else mdl f
def Qo (W T : Int) (cs : List Bool) (ds : List Int) : List Int → List (List Int) → List (List UInt8) → List Int × List (List Int) × List (List UInt8)
 | ls, ps, [] => (ls, ps, [])
 | ls, ps, s :: xs => let r := DM W T cs ds ls ps s; let q := Qo W T cs ds r.1 r.2.1 xs; (q.1, q.2.1, r.2.2 :: q.2.2)
theorem V6 (W T : Int) (cs : List Bool) (ds : List Int) : ∀ (xs ys : List (List UInt8)) (ls : List Int) (ps : List (List Int)),
  Qo W T cs ds ls ps (xs ++ ys) = ((Qo W T cs ds (Qo W T cs ds ls ps xs).1 (Qo W T cs ds ls ps xs).2.1 ys).1, (Qo W T cs ds (Qo W T cs ds ls ps xs).1 (Qo W T cs ds ls ps xs).2.1 ys).2.1,
   (Qo W T cs ds ls ps xs).2.2 ++ (Qo W T cs ds (Qo W T cs ds ls ps xs).1 (Qo W T cs ds ls ps xs).2.1 ys).2.2)
 | [], ys, ls, ps => rfl
 | x :: xs, ys, ls, ps => by
   rw [List.cons_append, Qo, Qo]
   simp only [V6 W T cs ds xs ys, List.cons_append]
theorem aI (W T : Int) (cs : List Bool) (ds : List Int) (xs : List (List UInt8)) (s : List UInt8) (ls : List Int) (ps : List (List Int)) :
  Qo W T cs ds ls ps (xs ++ [s]) = (let q := Qo W T cs ds ls ps xs; let r := DM W T cs ds q.1 q.2.1 s; (r.1, r.2.1, q.2.2 ++ [r.2.2])) := by
 rw [V6]; rfl
theorem gn {W T : Int} {cs : List Bool} {ds : List Int} : ∀ (xs : List (List UInt8)) {ls : List Int} {ps : List (List Int)}, Au W T cs ds ls ps = true → Au W T cs ds (Qo W T cs ds ls ps xs).1 (Qo W T cs ds ls ps xs).2.1 = true
 | [], _, _, h => h
 | x :: xs, _, _, h => gn xs (ZT x h)
theorem dr {W T : Int} {cs : List Bool} {ds : List Int} : ∀ (xs : List (List UInt8)) (ls : List Int) (ps : List (List Int)), (Qo W T cs ds ls ps xs).2.2.length = xs.length
 | [], _, _ => rfl
 | x :: xs, _, _ => by rw [Qo]; simp [dr xs]
def du (W T : Int) (cs : List Bool) (ds ls : List Int) (ps : List (List Int)) (xs : List (List UInt8)) : Bool := Au W T cs ds ls ps && decide (xs.length ≤ 40)
def mA (W T : Int) (cs : List Bool) (ds ls : List Int) (ps : List (List Int)) (xs : List (List UInt8)) : AV :=
 if du W T cs ds ls ps xs = true then .tup [bkO W T cs ds (Qo W T cs ds ls ps xs).1 (Qo W T cs ds ls ps xs).2.1, .os 1 (txs (Qo W T cs ds ls ps xs).2.2)] else .tup [bkO 0 0 [] [] [] [], .os 1 []]
theorem Ri (ls : List (List UInt8)) : SoundAt Tryz.prog CC [.os 1 (txs ls)] (.os 1 (txs ls)) [.bot] := by
 refine AE (md := mdL) (ms := [false]) IB (by simp) ?_
 simp [D8]
theorem Vb (W T : Int) (cs : List Bool) (ds ls : List Int) (ps : List (List Int)) (xs : List (List UInt8)) (hc : cs.length ≤ 2 ^ 30) (hd : ds.length ≤ 2 ^ 30) (hl : ls.length ≤ 2 ^ 30) (hb : ps.length ≤ 2 ^ 30) (hp : ∀ p ∈ ps, p.length ≤ 2 ^ 30) (hn : xs.length < 2 ^ 40) (hx : ∀ x ∈ xs, x.length < 2 ^ 30) :
  SoundAt Tryz.prog Jx [bkA W T cs ds ls ps, .sl 1 1 (txs xs)] (mA W T cs ds ls ps xs) [.bot, .bot] := by
 have hv := SI W T cs ds ls ps (by omega) (by omega) (by omega) (by omega) (fun p h => by have := hp p h; omega)
 refine AE (md := mdL) (ms := [false, false]) VC (by simp) ?_
 unfold mA du
 cases h : Au W T cs ds ls ps with
 | false =>
   rw [h] at hv
   simp [Gf]
   refine AA hv ?_
   simp
 | true =>
 rw [h] at hv
 by_cases h40 : xs.length ≤ 40
 case neg =>
  have h41 : (40 : Int) < xs.length := by omega
  simp [Gf, h40]
  refine AA hv ?_
  simp [h41]
 have h41 : ¬ (40 : Int) < xs.length := by omega
 obtain ⟨hf, h20, hpf⟩ := Ad h
 obtain ⟨l36, ld, ll⟩ := Dq hf
 have hcopy := Qi W T cs ds ls ps (by omega) (by omega) (by omega) (by omega) (fun p hp => by have := Dq (hpf p hp); omega)
 simp [Gf, h40]
 refine AA hv ?_
 simp [h41]
 refine AA hcopy ?_
 simp
 refine AF (fun m E H => ∃ (i : Nat) (l : List Int) (p : List (List Int)) (as' : List (List UInt8)), m = xs.length - i ∧ i ≤ xs.length ∧ Qo W T cs ds ls ps (xs.take i) = (l, p, as') ∧ as'.length = i ∧ Au W T cs ds l p = true ∧
  E = [(4, .lp 0 0 0 0), (6, .lp 0 1 0 0), (7, .ls 1 2 0 as'.length), (21, .sl 1 1 (txs xs)), (22, .v (.int .i64 xs.length)), (23, .v (.int .i64 i))] ∧
  H = [some (.box [.v (.int .i64 0), .v (.int .i64 0), .os 1 [], .os 1 [], .os 1 [], .os 1 []]), some (.box [.v (.int .i64 W), .v (.int .i64 T), .ls 1 3 0 cs.length, .ls 1 4 0 ds.length, .ls 1 5 0 l.length, .ls 1 6 0 p.length]),
    some (.arr 1 (txs as')), some (.arr 1 (AC cs)), some (.arr 1 (AB ds)), some (.arr 1 (AB l)), some (.arr 1 (oss p))]) xs.length ⟨0, ls, ps, [], by simp, by omega, by simp [Qo], rfl, h, by simp, by simp⟩ ?_
 rintro J hJ m E H ⟨i, l, p, as', rfl, hi, hr, hai, hbk, rfl, rfl⟩
 have htl : (AB l).take l.length = AB l := AD l
 have hto : (oss p).take p.length = oss p := List.take_of_length_le (by simp [oss])
 by_cases hlt : i < xs.length
 ·have hln := Sg W T cs ds l p xs[i] hbk (hx _ (List.getElem_mem hlt))
  have hbk2 := ZT xs[i] hbk
  have hr2 : Qo W T cs ds ls ps (xs.take (i + 1)) = ((DM W T cs ds l p xs[i]).1, (DM W T cs ds l p xs[i]).2.1, as' ++ [(DM W T cs ds l p xs[i]).2.2]) := by
   rw [List.take_succ_eq_append_getElem hlt, aI, hr]
  have hat : att xs (i : Int) = xs[i] := by simp [att, hlt]
  generalize DM W T cs ds l p xs[i] = r at *
  obtain ⟨l2, p2, a⟩ := r
  have htl2 : (AB l2).take l2.length = AB l2 := AD l2
  have hto2 : (oss p2).take p2.length = oss p2 := List.take_of_length_le (by simp [oss])
  simp only at hln hbk2 hr2
  have ap : txs as' ++ [.v (tx a)] = txs (as' ++ [a]) := by simp [txs]
  have nx := hJ (xs.length - (i + 1)) _ _ ⟨i + 1, l2, p2, as' ++ [a], rfl, hlt, hr2, by simp [hai], hbk2, rfl, rfl⟩
  rw [List.length_append, List.length_singleton, ← ap] at nx
  simp only [Int.natCast_add, Int.cast_ofNat_Int] at nx
  simp [GR, hlt, hat]
  refine AA hln ?_
  simp
  exact ⟨by omega, by omega, _, by omega, nx⟩
 ·have : i = xs.length := by omega
  subst this
  rw [List.take_length] at hr
  have cl := Ri as'
  have tk : (txs as').take as'.length = txs as' := List.take_of_length_le (by simp)
  simp [GR, hr]
  (repeat' first | omega | apply And.intro) <;>
  ·refine AA cl ?_
   simp [htl, hto, tk]
set_option maxHeartbeats 4000000 in
theorem Vc (W T : Int) (cs : List Bool) (ds ls : List Int) (ps : List (List Int)) (xs : List (List UInt8)) (hc : cs.length ≤ 2 ^ 30) (hd : ds.length ≤ 2 ^ 30) (hl : ls.length ≤ 2 ^ 30) (hb : ps.length ≤ 2 ^ 30) (hp : ∀ p ∈ ps, p.length ≤ 2 ^ 30) (hn : xs.length < 2 ^ 40) (hx : ∀ x ∈ xs, x.length < 2 ^ 30) :
  SoundAt Tryz.prog Jw [bkA W T cs ds ls ps, .sl 1 1 (txs xs)] (mA W T cs ds ls ps xs) [.bot, .bot] := by
 have hv := Bm W T cs ds ls ps (by omega) (by omega) (by omega) (by omega) (fun p h => by have := hp p h; omega)
 refine AE (md := mdL) (ms := [false, false]) VB (by simp) ?_
 unfold mA du
 cases h : Au W T cs ds ls ps with
 | false =>
   rw [h] at hv
   simp [Ge]
   refine AA hv ?_
   simp
 | true =>
 rw [h] at hv
 by_cases h40 : xs.length ≤ 40
 case neg =>
  have h41 : (40 : Int) < xs.length := by omega
  simp [Ge, h40]
  refine AA hv ?_
  simp [h41]
 have h41 : ¬ (40 : Int) < xs.length := by omega
 have hcopy := Am h
 simp [Ge, h40]
 refine AA hv ?_
 simp [h41]
 refine AA hcopy ?_
 simp
 refine AF (fun m E H => ∃ (i : Nat) (l : List Int) (p : List (List Int)) (as' : List (List UInt8)), m = xs.length - i ∧ i ≤ xs.length ∧ Qo W T cs ds ls ps (xs.take i) = (l, p, as') ∧ as'.length = i ∧ Au W T cs ds l p = true ∧
  E = [(1, .sl 1 1 (txs xs)), (4, .lp 0 0 0 0), (6, .ls 1 1 0 as'.length), (7, .lp 0 2 0 0), (8, .v (.int .i64 i))] ∧
  H = [some (.box [.v (.int .i64 0), .v (.int .i64 0), .os 1 [], .os 1 [], .os 1 [], .os 1 []]), some (.arr 1 (txs as')), some (.box [.v (.int .i64 W), .v (.int .i64 T), .ls 1 3 0 cs.length, .ls 1 4 0 ds.length, .ls 1 5 0 l.length, .ls 1 6 0 p.length]),
    some (.arr 1 (AC cs)), some (.arr 1 (AB ds)), some (.arr 1 (AB l)), some (.arr 1 (oss p))]) xs.length ⟨0, ls, ps, [], by simp, by omega, by simp [Qo], rfl, h, by simp, by simp⟩ ?_
 rintro J hJ m E H ⟨i, l, p, as', rfl, hi, hr, hai, hbk, rfl, rfl⟩
 have htl : (AB l).take l.length = AB l := AD l
 have hto : (oss p).take p.length = oss p := List.take_of_length_le (by simp [oss])
 by_cases hlt : i < xs.length
 ·obtain ⟨b1, b2, b3, b4, b5, _⟩ := Gc hbk
  have hln := Ui W T cs ds l p xs[i] (by omega) (by omega) (by omega) (by omega) (fun q hq => by have := b5 q hq; omega) (hx _ (List.getElem_mem hlt))
  unfold dq at hln
  rw [hbk] at hln
  simp only [if_true] at hln
  have hbk2 := ZT xs[i] hbk
  have hr2 : Qo W T cs ds ls ps (xs.take (i + 1)) = ((DM W T cs ds l p xs[i]).1, (DM W T cs ds l p xs[i]).2.1, as' ++ [(DM W T cs ds l p xs[i]).2.2]) := by
   rw [List.take_succ_eq_append_getElem hlt, aI, hr]
  have hat : att xs (i : Int) = xs[i] := by simp [att, hlt]
  generalize DM W T cs ds l p xs[i] = r at *
  obtain ⟨l2, p2, a⟩ := r
  have htl2 : (AB l2).take l2.length = AB l2 := AD l2
  have hto2 : (oss p2).take p2.length = oss p2 := List.take_of_length_le (by simp [oss])
  simp only at hln hbk2 hr2
  have ap : txs as' ++ [.v (tx a)] = txs (as' ++ [a]) := by simp [txs]
  have nx := hJ (xs.length - (i + 1)) _ _ ⟨i + 1, l2, p2, as' ++ [a], rfl, hlt, hr2, by simp [hai], hbk2, rfl, rfl⟩
  rw [List.length_append, List.length_singleton, ← ap] at nx
  simp only [Int.natCast_add, Int.cast_ofNat_Int] at nx
  simp [GQ, hlt, hat]
  (repeat' first | omega | apply And.intro) <;>
  ·refine AA hln ?_
   simp
   exact ⟨by omega, by omega, _, by omega, nx⟩
 ·have : i = xs.length := by omega
  subst this
  rw [List.take_length] at hr
  have tk : (txs as').take as'.length = txs as' := List.take_of_length_le (by simp)
  simp [GQ, hr, htl, hto, tk]
@[simp] abbrev Lr : Nat := 29
def DN : ACode := .seq (.seq (.reg [.m 12 5, .m 13 0, .n 14 13, .o 15 (.bin .lss 0) [.t 12, .t 14]]) <| .cond (.t 15) ( .skip) ( .exit 0)) <| .seq (.block 1 ( .seq (.reg [.m 18 1, .m 19 0, .m 20 5, .o 21 (.iadr 1) [.t 19, .t 20], .l 22 21, .o 23 (.len true) [.t 22], .o 24 (.bin .sub 0) [.t 18, .t 23], .m 1 24]) <| .seq (.reg [.m 25 1, .o 26 (.bin .lss 0) [.t 25, .k 0]]) <| .cond (.t 26) ( .seq (.reg [.o 4 .mv [.k (-1)]]) <| .ret) ( .skip))) <| .reg [.m 16 5, .o 17 (.bin .add 0) [.t 16, .k 1], .m 5 17]
def HC : ACode := .seq (.reg [.o 4 .mv [.k 0]]) <| .seq (.reg [.m 6 1, .m 7 0, .n 8 7, .o 9 (.bin .sub 0) [.t 6, .t 8], .m 1 9]) <| .seq (.seq (.reg [.m 10 1, .o 11 (.bin .lss 0) [.t 10, .k 0]]) <| .cond (.t 11) ( .seq (.reg [.o 4 .mv [.k (-1)]]) <| .ret) ( .skip)) <| .seq (.seq (.reg [.o 5 .mv [.k 0]]) <| .block 0 ( .loop [(0, 1)] [0, 1, 5] DN)) <| .seq (.reg [.m 27 1, .m 4 27]) <| .ret
theorem Sh : cFn Tryz.prog Lr 28 [.t 4] HC := ⟨Tryz.f29, _, Tryz.func29, rfl, by kernel_rfl, by kernel_rfl, by kernel_rfl, by kernel_rfl⟩
@[simp] abbrev Ls : Nat := 31
def E8 : ACode := .seq (.seq (.reg [.m 8 4, .m 9 0, .n 10 9, .o 11 (.bin .lss 0) [.t 8, .t 10]]) <| .cond (.t 11) ( .skip) ( .exit 0)) <| .seq (.block 1 ( .reg [.m 14 3, .m 15 4, .m 16 0, .m 17 4, .o 18 (.iadr 1) [.t 16, .t 17], .l 19 18, .o 20 (.iadr 1) [.t 14, .t 15], .s (.store 1) [.t 20, .t 19]])) <| .reg [.m 12 4, .o 13 (.bin .add 0) [.t 12, .k 1], .m 4 13]
def Lt : ACode := .seq (.reg [.o 2 .mv [.c (.os 1 [])]]) <| .seq (.reg [.m 5 0, .n 6 5, .o 7 (.mksl 1 16 (.v (.string ⟨#[]⟩))) [.t 6, .t 6], .m 3 7]) <| .seq (.seq (.reg [.o 4 .mv [.k 0]]) <| .block 0 ( .loop [(0, 1), (3, 1)] [0, 3, 4] E8)) <| .seq (.reg [.m 21 3, .m 2 21]) <| .ret
theorem Si : cFn Tryz.prog Ls 22 [.t 2] Lt := ⟨Tryz.f31, _, Tryz.func31, rfl, by kernel_rfl, by kernel_rfl, by kernel_rfl, by kernel_rfl⟩
@[simp] abbrev Lu : Nat := 33
def DP : ACode := .seq (.seq (.reg [.m 11 5, .m 12 0, .n 13 12, .o 14 (.bin .lss 0) [.t 11, .t 13]]) <| .cond (.t 14) ( .skip) ( .exit 0)) <| .seq (.block 1 ( .seq (.draw ( .take (.m 17 0) <| .take (.m 18 5) <| .take (.o 19 (.iadr 1) [.t 17, .t 18]) <| .take (.m 21 1) <| .take (.m 22 5) <| .take (.o 23 (.iadr 1) [.t 21, .t 22]) <| .alt (.l 20 19) ( .al (.l 24 23) ( .take (.o 25 (.bin .neq 1) [.t 20, .t 24]) <| .done)) <| .al (.l 24 23) ( .al (.l 20 19) ( .take (.o 25 (.bin .neq 1) [.t 20, .t 24]) <| .done)))) <| .cond (.t 25) ( .seq (.reg [.o 4 .mv [.kb false]]) <| .ret) ( .skip))) <| .reg [.m 15 5, .o 16 (.bin .add 0) [.t 15, .k 1], .m 5 16]
def HD : ACode := .seq (.reg [.o 4 .mv [.kb false]]) <| .seq (.seq (.reg [.m 6 0, .n 7 6, .m 8 1, .n 9 8, .o 10 (.bin .neq 0) [.t 7, .t 9]]) <| .cond (.t 10) ( .seq (.reg [.o 4 .mv [.kb false]]) <| .ret) ( .skip)) <| .seq (.seq (.reg [.o 5 .mv [.k 0]]) <| .block 0 ( .loop [(0, 1), (1, 1)] [0, 1, 5] DP)) <| .seq (.reg [.o 4 .mv [.kb true]]) <| .ret
theorem Sj : cFn Tryz.prog Lu 26 [.t 4] HD := ⟨Tryz.f33, _, Tryz.func33, rfl, by kernel_rfl, by kernel_rfl, by kernel_rfl, by kernel_rfl⟩
@[simp] abbrev NM : Nat := 96
def Ft : ACode := .seq (.seq (.reg [.m 6 0, .o 7 (.bin .gtr 0) [.t 6, .k 0]]) <| .cond (.t 7) ( .skip) ( .exit 0)) <| .block 1 ( .seq (.reg [.m 8 0, .o 9 (.bin .rem 0) [.t 8, .k 10], .o 10 (.bin .add 0) [.k 48, .t 9], .o 11 (.conv .u8) [.t 10], .o 12 (.bsl 1) [.t 11], .o 13 .str [.t 12], .m 14 3, .o 15 (.bin .add 1) [.t 13, .t 14], .m 3 15]) <| .reg [.m 16 0, .o 17 (.bin .quo 0) [.t 16, .k 10], .m 0 17])
def NN : ACode := .seq (.reg [.o 2 .mv [.c (.v (.string ⟨#[]⟩))]]) <| .seq (.seq (.reg [.m 4 0, .o 5 (.bin .leq 0) [.t 4, .k 0]]) <| .cond (.t 5) ( .seq (.reg [.o 2 .mv [.c (.v (.string ⟨#[109, 48]⟩))]]) <| .ret) ( .skip)) <| .seq (.reg [.o 3 .mv [.c (.v (.string ⟨#[]⟩))]]) <| .seq (.block 0 ( .loop [] [0, 3] Ft)) <| .seq (.reg [.m 18 3, .o 19 (.bin .add 1) [.c (.v (.string ⟨#[109]⟩)), .t 18], .m 2 19]) <| .ret
theorem Uj : cFn Tryz.prog NM 20 [.t 2] NN := ⟨Tryz.f96, _, Tryz.func96, rfl, by kernel_rfl, by kernel_rfl, by kernel_rfl, by kernel_rfl⟩
@[simp] abbrev Du : Nat := 34
def EE : ACode := .seq (.seq (.reg [.m 6 5, .m 7 0, .n 8 7, .o 9 (.bin .lss 0) [.t 6, .t 8]]) <| .cond (.t 9) ( .skip) ( .exit 0)) <| .seq (.block 1 ( .seq (.reg [.m 12 0, .m 13 5, .m 14 1, .o 15 (.call 96 []) [.t 14], .o 16 (.iadr 1) [.t 12, .t 13], .s (.store 1) [.t 16, .t 15]]) <| .reg [.m 17 1, .o 18 (.bin .add 0) [.t 17, .k 1], .m 1 18])) <| .reg [.m 10 5, .o 11 (.bin .add 0) [.t 10, .k 1], .m 5 11]
def Jm : ACode := .seq (.reg [.o 4 .mv [.k 0]]) <| .seq (.seq (.reg [.o 5 .mv [.k 0]]) <| .block 0 ( .loop [(0, 1)] [0, 1, 5, 20] EE)) <| .seq (.reg [.m 19 1, .m 4 19]) <| .ret
theorem Qp : cFn Tryz.prog Du 20 [.t 4] Jm := ⟨Tryz.f34, _, Tryz.func34, rfl, by kernel_rfl, by kernel_rfl, by kernel_rfl, by kernel_rfl⟩
@[simp] abbrev Jn : Nat := 35
def EF : ACode := .seq (.seq (.reg [.m 6 5, .m 7 0, .n 8 7, .o 9 (.bin .lss 0) [.t 6, .t 8]]) <| .cond (.t 9) ( .skip) ( .exit 0)) <| .seq (.block 1 ( .seq (.seq (.draw ( .take (.m 12 0) <| .take (.m 13 5) <| .take (.o 14 (.iadr 1) [.t 12, .t 13]) <| .take (.m 16 1) <| .alt (.l 15 14) ( .al (.o 17 (.call 96 []) [.t 16]) ( .take (.o 18 (.bin .neq 1) [.t 15, .t 17]) <| .done)) <| .al (.o 17 (.call 96 []) [.t 16]) ( .al (.l 15 14) ( .take (.o 18 (.bin .neq 1) [.t 15, .t 17]) <| .done)))) <| .cond (.t 18) ( .seq (.reg [.o 4 .mv [.k (-1)]]) <| .ret) ( .skip)) <| .reg [.m 19 1, .o 20 (.bin .add 0) [.t 19, .k 1], .m 1 20])) <| .reg [.m 10 5, .o 11 (.bin .add 0) [.t 10, .k 1], .m 5 11]
def Jo : ACode := .seq (.reg [.o 4 .mv [.k 0]]) <| .seq (.seq (.reg [.o 5 .mv [.k 0]]) <| .block 0 ( .loop [(0, 1)] [0, 1, 5] EF)) <| .seq (.reg [.m 21 1, .m 4 21]) <| .ret
theorem Qq : cFn Tryz.prog Jn 22 [.t 4] Jo := ⟨Tryz.f35, _, Tryz.func35, rfl, by kernel_rfl, by kernel_rfl, by kernel_rfl, by kernel_rfl⟩
@[simp] abbrev EG : Nat := 6
def Cz : ACode := .seq (.seq (.reg [.m 60 9, .m 61 1, .o 62 (.call 31 []) [.t 61], .o 63 (.call 33 []) [.t 60, .t 62], .o 64 (.un .not) [.t 63]]) <| .cond (.t 64) ( .seq (.reg [.o 4 .mv [.kb false]]) <| .ret) ( .skip)) <| .seq (.reg [.o 12 .mv [.k 1]]) <| .seq (.reg [.la 65 6 8, .m 66 12, .o 67 (.call 27 []) [.t 65, .t 66], .m 12 67]) <| .seq (.reg [.m 68 9, .m 69 12, .o 70 (.call 34 []) [.t 68, .t 69], .m 12 70]) <| .seq (.seq (.reg [.m 71 12, .o 72 (.bin .lss 0) [.t 71, .k 0], .m 73 72, .g 74 (.load true 6) [.t 10] 73 false, .g 75 (.load true 6) [.t 6] 73 false, .g 76 (.call 26 []) [.t 74, .t 75] 73 false, .g 77 (.un .not) [.t 76] 73 false, .o 78 .pick [.t 73, .kb true, .t 77], .m 79 78, .mg 80 11 79 false, .mg 81 7 79 false, .g 82 (.call 33 []) [.t 80, .t 81] 79 false, .g 83 (.un .not) [.t 82] 79 false, .o 84 .pick [.t 79, .kb true, .t 83]]) <| .cond (.t 84) ( .seq (.reg [.o 4 .mv [.kb false]]) <| .ret) ( .skip)) <| .seq (.reg [.o 13 .mv [.k 1]]) <| .seq (.reg [.la 85 6 10, .m 86 13, .o 87 (.call 27 []) [.t 85, .t 86], .m 13 87]) <| .seq (.reg [.m 88 11, .m 89 13, .o 90 (.call 34 []) [.t 88, .t 89], .m 13 90]) <| .seq (.reg [.o 14 .mv [.k 1]]) <| .seq (.reg [.la 91 6 10, .m 92 14, .o 93 (.call 28 []) [.t 91, .t 92], .m 14 93]) <| .seq (.seq (.reg [.m 94 14, .o 95 (.bin .lss 0) [.t 94, .k 0]]) <| .cond (.t 95) ( .seq (.reg [.o 4 .mv [.kb false]]) <| .ret) ( .skip)) <| .seq (.reg [.m 96 11, .m 97 14, .o 98 (.call 35 []) [.t 96, .t 97], .m 14 98]) <| .seq (.seq (.reg [.m 99 14, .o 100 (.bin .lss 0) [.t 99, .k 0]]) <| .cond (.t 100) ( .seq (.reg [.o 4 .mv [.kb false]]) <| .ret) ( .skip)) <| .seq (.seq (.reg [.m 101 14, .m 102 13, .o 103 (.bin .neq 0) [.t 101, .t 102]]) <| .cond (.t 103) ( .seq (.reg [.o 4 .mv [.kb false]]) <| .ret) ( .skip)) <| .seq (.reg [.la 105 6 2, .o 106 (.call 25 []) [.t 105], .m 107 1, .o 108 (.call 31 []) [.t 107], .o 109 (.call 32 []) [.t 106, .t 108], .m 104 109, .e 110 0 104, .e 111 1 104, .o 15 (.alloc bz) [], .s (.store 6) [.t 15, .t 110], .m 16 111]) <| .seq (.seq (.reg [.la 112 6 15, .la 113 6 6, .o 114 (.call 26 []) [.t 112, .t 113], .o 115 (.un .not) [.t 114], .m 116 115, .mg 117 16 116 false, .mg 118 7 116 false, .g 119 (.call 33 []) [.t 117, .t 118] 116 false, .g 120 (.un .not) [.t 119] 116 false, .o 121 .pick [.t 116, .kb true, .t 120]]) <| .cond (.t 121) ( .seq (.reg [.o 4 .mv [.kb false]]) <| .ret) ( .skip)) <| .seq (.reg [.o 14 .mv [.k 1]]) <| .seq (.reg [.la 122 6 10, .m 123 14, .o 124 (.call 28 []) [.t 122, .t 123], .m 14 124]) <| .seq (.seq (.reg [.m 125 14, .o 126 (.bin .lss 0) [.t 125, .k 0]]) <| .cond (.t 126) ( .seq (.reg [.o 4 .mv [.kb false]]) <| .ret) ( .skip)) <| .seq (.reg [.m 127 11, .m 128 14, .o 129 (.call 35 []) [.t 127, .t 128], .m 14 129]) <| .seq (.seq (.reg [.m 130 14, .o 131 (.bin .lss 0) [.t 130, .k 0]]) <| .cond (.t 131) ( .seq (.reg [.o 4 .mv [.kb false]]) <| .ret) ( .skip)) <| .seq (.seq (.reg [.m 132 14, .m 133 13, .o 134 (.bin .neq 0) [.t 132, .t 133]]) <| .cond (.t 134) ( .seq (.reg [.o 4 .mv [.kb false]]) <| .ret) ( .skip)) <| .seq (.reg [.o 4 .mv [.kb true]]) <| .ret
abbrev C1 : Plan := .al (.o 58 (.call 26 []) [.t 55, .t 57]) ( .take (.o 59 (.un .not) [.t 58]) <| .done)
def Ce : ACode := .seq (.reg [.o 2 .box [.t 0], .o 4 .mv [.kb false]]) <| .seq (.reg [.o 5 .mv [.k 1048576]]) <| .seq (.reg [.la 17 6 2, .m 18 5, .o 19 (.call 23 []) [.t 17, .t 18], .m 5 19]) <| .seq (.seq (.reg [.m 20 5, .o 21 (.bin .lss 0) [.t 20, .k 0]]) <| .cond (.t 21) ( .seq (.reg [.o 4 .mv [.kb true]]) <| .ret) ( .skip)) <| .seq (.reg [.m 22 1, .m 23 5, .o 24 (.call 29 []) [.t 22, .t 23], .m 5 24]) <| .seq (.seq (.reg [.m 25 5, .o 26 (.bin .lss 0) [.t 25, .k 0]]) <| .cond (.t 26) ( .seq (.reg [.o 4 .mv [.kb true]]) <| .ret) ( .skip)) <| .seq (.reg [.la 28 6 2, .o 29 (.call 25 []) [.t 28], .m 30 1, .o 31 (.call 31 []) [.t 30], .o 32 (.call 30 []) [.t 29, .t 31], .m 27 32, .e 33 0 27, .e 34 1 27, .o 6 (.alloc bz) [], .s (.store 6) [.t 6, .t 33], .m 7 34]) <| .seq (.reg [.la 35 6 2, .o 36 (.call 25 []) [.t 35], .o 8 (.alloc bz) [], .s (.store 6) [.t 8, .t 36]]) <| .seq (.reg [.m 37 1, .o 38 (.call 31 []) [.t 37], .m 9 38]) <| .seq (.reg [.la 40 6 8, .m 41 9, .o 42 (.call 32 []) [.t 40, .t 41], .m 39 42, .e 43 0 39, .e 44 1 39, .o 10 (.alloc bz) [], .s (.store 6) [.t 10, .t 43], .m 11 44]) <| .seq (.seq (.reg [.la 45 6 10, .la 46 6 6, .o 47 (.call 26 []) [.t 45, .t 46], .o 48 (.un .not) [.t 47], .m 49 48, .mg 50 11 49 false, .mg 51 7 49 false, .g 52 (.call 33 []) [.t 50, .t 51] 49 false, .g 53 (.un .not) [.t 52] 49 false, .o 54 .pick [.t 49, .kb true, .t 53]]) <| .cond (.t 54) ( .seq (.reg [.o 4 .mv [.kb false]]) <| .ret) ( .skip)) <| .seq (.seq (.draw ( .alt (.la 55 6 8) ( .al (.la 56 6 2) ( .al (.o 57 (.call 25 []) [.t 56]) C1)) <| .al (.la 56 6 2) ( .alt (.la 55 6 8) ( .al (.o 57 (.call 25 []) [.t 56]) C1) <| .al (.o 57 (.call 25 []) [.t 56]) ( .al (.la 55 6 8) C1)))) <| .cond (.t 59) ( .seq (.reg [.o 4 .mv [.kb false]]) <| .ret) ( .skip)) <| .gc [] [1, 2, 6, 7, 8, 9, 10, 11] Cz
theorem EH : cFn Tryz.prog EG 135 [.t 4] Ce := ⟨Tryz.f6, _, Tryz.func6, rfl, by kernel_rfl, by kernel_rfl, by kernel_rfl, by kernel_rfl⟩
theorem YW (n : Nat) : ∀ ps : List (List Int), (∀ p ∈ ps, p.length ≤ n) → EM ps ≤ ps.length * n
 | [], _ => by simp [EM]
 | p :: ps, h => by
   have h1 := h p (by simp)
   have h2 := YW n ps fun q hq => h q (by simp [hq])
   simp only [EM, List.map_cons, List.sum_cons, List.length_cons] at *
   rw [Nat.add_mul]
   omega
@[simp] def mdS (f : Nat) : List Bool := if f = Du then [true, false] else []
def O3 : List (List UInt8) → Nat
 | [] => 0
 | x :: xs => x.length + O3 xs
theorem YX (x : List UInt8) : ∀ xs : List (List UInt8), O3 (xs ++ [x]) = O3 xs + x.length
 | [] => by simp [O3]
 | y :: ys => by simp [O3, YX x ys]; omega
theorem dv (ls : List (List UInt8)) {i : Nat} (h : i < ls.length) : O3 (ls.take (i + 1)) = O3 (ls.take i) + ls[i].length := by
 rw [List.take_succ_eq_append_getElem h, YX]
theorem XP : ∀ {ls : List (List UInt8)} {x : List UInt8}, x ∈ ls → x.length ≤ O3 ls
 | y :: ys, x, h => by
   rcases List.mem_cons.1 h with rfl | h
   ·simp [O3]
   ·have := XP h; simp [O3]; omega
theorem je (ls : List (List UInt8)) : ∀ i : Nat, O3 (ls.take i) ≤ O3 ls := by
 induction ls with
 | nil => simp [O3]
 | cons x xs ih => intro i; cases i with
   | zero => simp [O3]
   | succ i => have := ih i; simp [O3]; omega
theorem Uk {ls : List (List UInt8)} {i : Nat} (h : i < ls.length) : att ls (i : Int) = ls[i] := by simp [att, h]
theorem Lv (ls : List (List UInt8)) (n : Nat) (hn : n ≤ 2 ^ 20) (hl : ls.length ≤ 9223372036854775807) (hx : ∀ x ∈ ls, x.length ≤ 9223372036854775807) :
  SoundAt Tryz.prog Lr [.sl 1 1 (txs ls), .v (.int .i64 (n : Int))] (.v (.int .i64 (if ls.length + O3 ls ≤ n then ((n - ls.length - O3 ls : Nat) : Int) else -1))) [.bot, .bot] := by
 refine AE (md := mdS) (ms := [false, false]) Sh (by simp) ?_
 by_cases h0 : ls.length ≤ n
 case neg =>
  have h1 : (n : Int) - (ls.length : Int) < 0 := by omega
  have h2 : ¬ ls.length + O3 ls ≤ n := by omega
  simp [HC, h1, h2]
  omega
 have h1 : ¬ (n : Int) - (ls.length : Int) < 0 := by omega
 simp [HC, h1]
 refine ⟨by omega, ?_⟩
 refine AF (fun m E H => ∃ i : Nat, m = ls.length - i ∧ i ≤ ls.length ∧ ls.length + O3 (ls.take i) ≤ n ∧ H = [] ∧ E = [(0, .sl 1 1 (txs ls)), (1, .v (.int .i64 ((n : Int) - ls.length - O3 (ls.take i)))), (5, .v (.int .i64 i))]) ls.length ⟨0, rfl, by omega, by simp [O3]; omega, rfl, by simp [O3]⟩ ?_
 rintro J hJ m E H ⟨i, rfl, hi, hle, rfl, rfl⟩
 by_cases h : i < ls.length
 ·have ht := dv ls h
  have hx1 := hx ls[i] (List.getElem_mem h)
  have hat := Uk h
  by_cases h2 : ls.length + O3 (ls.take (i + 1)) ≤ n
  ·have nx := hJ (ls.length - (i + 1)) [(0, .sl 1 1 (txs ls)), (1, .v (.int .i64 ((n : Int) - ls.length - O3 (ls.take (i + 1))))), (5, .v (.int .i64 ((i : Int) + 1)))] [] ⟨i + 1, rfl, h, h2, rfl, by simp⟩
   rw [ht] at nx h2
   have h3 : ¬ (n : Int) - ls.length - O3 (ls.take i) - ls[i].length < 0 := by omega
   simp [DN, h, hat, h3]
   rw [show (n : Int) - ls.length - (O3 (ls.take i) + ls[i].length : Nat) = (n : Int) - ls.length - O3 (ls.take i) - ls[i].length by omega] at nx
   exact ⟨by omega, by omega, _, by omega, nx⟩
  ·rw [ht] at h2
   have h3 : (n : Int) - ls.length - O3 (ls.take i) - ls[i].length < 0 := by omega
   have h4 := je ls (i + 1)
   rw [ht] at h4
   have h5 : ¬ ls.length + O3 ls ≤ n := by omega
   simp [DN, h, hat, h3, h5]
   omega
 ·have : i = ls.length := by omega
  subst this
  rw [List.take_length] at hle ⊢
  simp [DN, hle]
  omega
theorem Sk (ls : List (List UInt8)) (hl : ls.length ≤ 2 ^ 20) : SoundAt Tryz.prog Ls [.sl 1 1 (txs ls)] (.os 1 (txs ls)) [.bot] := by
 refine AE (md := mdS) (ms := [false]) Si (by simp) ?_
 have hrep : ∀ n, List.replicate n (AV.v (.string ⟨#[]⟩)) = txs (List.replicate n []) := fun n => by simp [txs]
 simp [Lt, hrep]
 refine ⟨by omega, ?_⟩
 refine AF (fun m E H => ∃ i : Nat, m = ls.length - i ∧ i ≤ ls.length ∧ H = [some (.arr 1 (txs (ls.take i ++ List.replicate (ls.length - i) [])))] ∧ E = [(0, .sl 1 1 (txs ls)), (3, .ls 1 0 0 ls.length), (4, .v (.int .i64 i))]) ls.length ⟨0, by simp⟩ ?_
 rintro J hJ m E H ⟨i, rfl, hi, rfl, rfl⟩
 have hlen : (ls.take i ++ List.replicate (ls.length - i) ([] : List UInt8)).length = ls.length := by simp; omega
 by_cases h : i < ls.length
 ·have hat := Uk h
  have st : (txs (ls.take i ++ List.replicate (ls.length - i) [])).set i (.v (tx ls[i])) = txs (ls.take (i + 1) ++ List.replicate (ls.length - (i + 1)) []) := by
   rw [txs, ← List.map_set, List.set_append_right _ _ (by simp; omega), List.length_take, Nat.min_eq_left (by omega), Nat.sub_self, show ls.length - i = (ls.length - (i + 1)) + 1 by omega, List.replicate_succ, List.set_cons_zero, List.take_succ_eq_append_getElem h]
   simp only [List.map_append, List.map_cons, List.map_replicate, List.map_nil, List.append_assoc, List.singleton_append, txs]
  have nx := hJ (ls.length - (i + 1)) [(0, .sl 1 1 (txs ls)), (3, .ls 1 0 0 ls.length), (4, .v (.int .i64 ((i : Int) + 1)))] [some (.arr 1 (txs (ls.take (i + 1) ++ List.replicate (ls.length - (i + 1)) [])))] ⟨i + 1, rfl, h, rfl, by simp⟩
  rw [← st] at nx
  generalize ls.take i ++ List.replicate (ls.length - i) ([] : List UInt8) = ys at *
  simp [E8, h, hat, hlen]
  exact ⟨by omega, _, by omega, nx⟩
 ·have : i = ls.length := by omega
  subst this
  simp [E8]
theorem Lw (xs ys : List (List UInt8)) (ha : xs.length < 2 ^ 40) :
  SoundAt Tryz.prog Lu [.sl 1 1 (txs xs), .sl 1 1 (txs ys)] (.v (.bool (decide (xs = ys)))) [.bot, .bot] := by
 refine AE (md := mdS) (ms := [false, false]) Sj (by simp) ?_
 by_cases hl : xs.length = ys.length
 case neg =>
  have h1 : ¬ xs = ys := fun e => hl (by rw [e])
  have h2 : ¬ (xs.length : Int) = (ys.length : Int) := by omega
  simp [HD, h1, h2, hl]
 simp [HD, hl]
 refine AF (fun m E H => ∃ i : Nat, m = xs.length - i ∧ i ≤ xs.length ∧ xs.take i = ys.take i ∧ H = [] ∧ E = [(0, .sl 1 1 (txs xs)), (1, .sl 1 1 (txs ys)), (5, .v (.int .i64 i))]) xs.length ⟨0, by simp⟩ ?_
 rintro J hJ m E H ⟨i, rfl, hi, he, rfl, rfl⟩
 by_cases h : i < xs.length
 ·have h2 : i < ys.length := by omega
  have a1 := Uk h
  have a2 := Uk h2
  by_cases e : xs[i] = ys[i]
  ·have nx := hJ (xs.length - (i + 1)) [(0, .sl 1 1 (txs xs)), (1, .sl 1 1 (txs ys)), (5, .v (.int .i64 ((i : Int) + 1)))] [] ⟨i + 1, rfl, h, by rw [List.take_succ_eq_append_getElem h, List.take_succ_eq_append_getElem h2, he, e], rfl, by simp⟩
   simp [DP, h, h2, a1, a2, e]
   exact ⟨by omega, _, by omega, nx⟩
  ·have h1 : ¬ xs = ys := fun e2 => e (by subst e2; rfl)
   simp [DP, h, h2, a1, a2, e, h1]
 ·have : i = xs.length := by omega
  subst this
  rw [List.take_length, List.take_of_length_le (by omega)] at he
  simp [DP, he]
def fk (n : Nat) (acc : List UInt8) : List UInt8 := if h : n = 0 then acc else fk (n / 10) (b8 (48 + (n : Int) % 10) :: acc)
termination_by n
decreasing_by omega
def ZX (k : Int) : List UInt8 := 109 :: fk k.toNat []
theorem aJ : ∀ (n : Nat) (acc : List UInt8), (fk n acc).length ≤ n + acc.length
 | 0, acc => by rw [fk]; simp
 | n + 1, acc => by
   rw [fk, dif_neg (by omega)]
   have := aJ ((n + 1) / 10) (b8 (48 + ((n + 1 : Nat) : Int) % 10) :: acc)
   simp only [List.length_cons] at this
   omega
theorem NO (k : Int) (h0 : 0 < k) (h1 : k < 2 ^ 40) : SoundAt Tryz.prog NM [.v (.int .i64 k)] (.v (tx (ZX k))) [.bot] := by
 refine AE (md := mdS) (ms := [false]) Uj (by simp) ?_
 have h2 : ¬ k ≤ 0 := by omega
 simp [NN, h2]
 refine AF (fun m E H => ∃ acc : List UInt8, m + acc.length ≤ k.toNat ∧ fk m acc = fk k.toNat [] ∧ H = [] ∧ E = [(0, .v (.int .i64 (m : Int))), (3, .v (tx acc))]) k.toNat ⟨[], by simp, rfl, rfl, by simp; omega⟩ ?_
 rintro J hJ m E H ⟨acc, hn, hd, rfl, rfl⟩
 by_cases h : 0 < m
 ·have nx := hJ (m / 10) [(0, .v (.int .i64 ((m : Int) / 10))), (3, .v (tx (b8 (48 + (m : Int) % 10) :: acc)))] [] ⟨b8 (48 + (m : Int) % 10) :: acc, by simp; omega, by rw [← hd]; conv => rhs; rw [fk, dif_neg (by omega)], rfl, by simp⟩
  have h3 : (0 : Int) < (m : Int) := by omega
  simp [Ft, h, eR, u8L]
  exact ⟨⟨by omega, by omega⟩, ⟨by omega, by omega⟩, by omega, by omega, _, by omega, nx⟩
 ·have : m = 0 := by omega
  subst this
  rw [fk] at hd
  simp only [dite_true] at hd
  have hl := aJ k.toNat []
  simp [Ft, ZX, ← hd]
  omega
def EW (n : Nat) (k : Int) : List (List UInt8) := (List.range n).map fun j : Nat => ZX (k + j)
@[simp] theorem fm (n : Nat) (k : Int) : (EW n k).length = n := by simp [EW]
theorem ZY {k : Int} {bs : List (List UInt8)} {i : Nat} (h : i < bs.length) : (EW i k ++ bs.drop i).set i (ZX (k + (i : Nat))) = EW (i + 1) k ++ bs.drop (i + 1) := by
 rw [Tj _ _ _ _ (by simp) h]
 simp [EW, List.range_succ]
theorem bM {n : Nat} {k : Int} {i : Nat} (h : i < (EW n k).length) : (EW n k)[i] = ZX (k + (i : Int)) := by simp [EW]
theorem jf (xs : List (List UInt8)) (i : Nat) (x : List UInt8) : (txs xs).set i (.v (tx x)) = txs (xs.set i x) := by simp [txs, List.map_set]
theorem Jp (bs : List (List UInt8)) (k : Int) (h0 : 0 < k) (h1 : k < 2 ^ 39) (hb : bs.length < 2 ^ 39) :
  SoundAt Tryz.prog Du [.os 1 (txs bs), .v (.int .i64 k)] (.v (.int .i64 (k + bs.length))) [.os 1 (txs (EW bs.length k)), .bot] := by
 refine AE (md := mdS) (ms := [true, false]) Qp (by simp) ?_
 simp [Jm]
 refine AF (fun m E H => ∃ i : Nat, m = bs.length - i ∧ i ≤ bs.length ∧ H = [some (.arr 1 (txs (EW i k ++ bs.drop i)))] ∧ E = [(0, .ls 1 0 0 bs.length), (1, .v (.int .i64 (k + i))), (5, .v (.int .i64 i)), (20, .ls 1 0 0 bs.length)]) bs.length ⟨0, by simp [EW]⟩ ?_
 rintro J hJ m E H ⟨i, rfl, hi, rfl, rfl⟩
 have hlen : (EW i k ++ bs.drop i).length = bs.length := by simp; omega
 by_cases h : i < bs.length
 ·have st := ZY (k := k) h
  have mk := NO (k + i) (by omega) (by omega)
  have nx := hJ (bs.length - (i + 1)) [(0, .ls 1 0 0 bs.length), (1, .v (.int .i64 (k + i + 1))), (5, .v (.int .i64 ((i : Int) + 1))), (20, .ls 1 0 0 bs.length)] [some (.arr 1 (txs (EW (i + 1) k ++ bs.drop (i + 1))))] ⟨i + 1, rfl, h, rfl, by simp; omega⟩
  rw [← st, ← jf] at nx
  generalize EW i k ++ bs.drop i = ys at *
  generalize ZX (k + i) = t at *
  simp [EE, h]
  refine AA mk ?_
  simp [h, hlen]
  exact ⟨by omega, by omega, _, by omega, nx⟩
 ·have : i = bs.length := by omega
  subst this
  have e : (txs (EW bs.length k)).take bs.length = txs (EW bs.length k) := List.take_of_length_le (by simp)
  simp [EE, e]
theorem Qr (n : Nat) (k : Int) (h0 : 0 < k) (h1 : k < 2 ^ 39) (hn : n < 2 ^ 39) : SoundAt Tryz.prog Jn [.sl 1 1 (txs (EW n k)), .v (.int .i64 k)] (.v (.int .i64 (k + n))) [.bot, .bot] := by
 refine AE (md := mdS) (ms := [false, false]) Qq (by simp) ?_
 simp [Jo]
 refine AF (fun m E H => ∃ i : Nat, m = n - i ∧ i ≤ n ∧ H = [] ∧ E = [(0, .sl 1 1 (txs (EW n k))), (1, .v (.int .i64 (k + i))), (5, .v (.int .i64 i))]) n ⟨0, by simp⟩ ?_
 rintro J hJ m E H ⟨i, rfl, hi, rfl, rfl⟩
 by_cases h : i < n
 ·have hl : i < (EW n k).length := by simpa using h
  have hx := bM hl
  have hat := Uk hl
  rw [hx] at hat
  have mk := NO (k + i) (by omega) (by omega)
  have nx := hJ (n - (i + 1)) [(0, .sl 1 1 (txs (EW n k))), (1, .v (.int .i64 (k + i + 1))), (5, .v (.int .i64 ((i : Int) + 1)))] [] ⟨i + 1, rfl, h, rfl, by simp; omega⟩
  generalize ZX (k + i) = t at *
  simp [EF, h, hat]
  (repeat' first | omega | apply And.intro) <;>
  ·refine AA mk ?_
   simp [hat, h]
   exact ⟨by omega, by omega, _, by omega, nx⟩
 ·have : i = n := by omega
  subst this
  simp [EF]
@[simp] def mdM (f : Nat) : List Bool := if f = Du then [true, false] else md3 f
theorem aK {cs : List Bool} {ds ls : List Int} {ps : List (List Int)} (hc : cs.length < 2 ^ 21) (hd : ds.length < 2 ^ 21) (hl : ls.length < 2 ^ 21) (hs : EM ps < 2 ^ 21) : 0 < ZM 1 cs ds ls ps ∧ ZM 1 cs ds ls ps < 2 ^ 38 := by
 unfold ZM
 omega
set_option maxHeartbeats 8000000 in
theorem Lx (W T : Int) (cs : List Bool) (ds ls : List Int) (ps : List (List Int)) (xs : List (List UInt8)) (W2 T2 : Int) (cs2 : List Bool) (ds2 ls2 : List Int) (ps2 : List (List Int)) (a : List (List UInt8)) (hc : cs.length < 2 ^ 21) (hd : ds.length < 2 ^ 21) (hl : ls.length < 2 ^ 21) (hs : EM ps < 2 ^ 21) (hb : ps.length < 2 ^ 40) (hp : ∀ p ∈ ps, p.length < 2 ^ 40)
  (hc2 : cs2.length ≤ 40) (hd2 : ds2.length ≤ 40) (hl2 : ls2.length ≤ 40) (hb2 : ps2.length ≤ 40) (hp2 : ∀ p ∈ ps2, p.length ≤ 40) (hs2 : EM ps2 < 2 ^ 21) (h3 : ¬ (1048576 : Int) < XR cs ds ls ps) (h4 : xs.length + O3 xs ≤ 1048576 - XR cs ds ls ps) (ha : a.length ≤ 2 ^ 20)
  (sp : SoundAt Tryz.prog Jw [bkA W T cs ds ls ps, .sl 1 1 (txs xs)] (.tup [bkO W2 T2 cs2 ds2 ls2 ps2, .os 1 (txs a)]) [.bot, .bot])
  (im : SoundAt Tryz.prog Jx [bkA W T cs ds ls ps, .sl 1 1 (txs xs)] (.tup [bkO W2 T2 cs2 ds2 ls2 ps2, .os 1 (txs a)]) [.bot, .bot]) :
  SoundAt Tryz.prog EG [bkA W T cs ds ls ps, .sl 1 1 (txs xs)] (.v (.bool true)) [.bot, .bot] := by
 have hp2' : ∀ p ∈ ps2, p.length < 2 ^ 40 := fun p h => by have := hp2 p h; omega
 have tob := Wx W T cs ds ls ps (by omega) (by omega) (by omega) (by omega) hp
 have tos := Sk xs (by omega)
 have eqb := QD W T cs ds ls ps (by omega) (by omega) (by omega) (by omega) hp
 have eqs := Lw xs xs (by omega)
 have eqa := Lw a a (by omega)
 have eqb2 := QD W2 T2 cs2 ds2 ls2 ps2 (by omega) (by omega) (by omega) (by omega) hp2'
 have mk := M4 W T cs ds ls ps 1 (by omega) (by omega) hc hd hl (by omega) hb hp
 have mk2 := M4 W2 T2 cs2 ds2 ls2 ps2 1 (by omega) (by omega) (by omega) (by omega) (by omega) (by omega) (by omega) hp2'
 have held := UK W2 T2 cs2 ds2 ls2 ps2 1 (by omega) (by omega) (by omega) (by omega) (by omega) (by omega) (by omega) hp2'
 obtain ⟨m0, m1⟩ := aK hc hd hl hs
 obtain ⟨m2, m3⟩ := aK (cs := cs2) (ds := ds2) (ls := ls2) (ps := ps2) (by omega) (by omega) (by omega) hs2
 have mks := Jp xs (ZM 1 cs ds ls ps) m0 (by omega) (by omega)
 have mka := Jp a (ZM 1 cs2 ds2 ls2 ps2) m2 (by omega) (by omega)
 have hda := Qr a.length (ZM 1 cs2 ds2 ls2 ps2) m2 (by omega) (by omega)
 have szs := Lv xs (1048576 - XR cs ds ls ps) (by omega) (by omega) (fun x hx => by have := XP hx; omega)
 rw [if_pos h4] at szs
 have tka : (txs a).take a.length = txs a := List.take_of_length_le (by simp)
 have tkx : (txs xs).take xs.length = txs xs := List.take_of_length_le (by simp)
 have mk0 : ¬ ZM 1 cs ds ls ps + (xs.length : Int) < 0 := by omega
 have mk3 : ¬ ZM 1 cs2 ds2 ls2 ps2 < 0 := by omega
 have mk4 : ¬ ZM 1 cs2 ds2 ls2 ps2 + (a.length : Int) < 0 := by omega
 have tkm : (txs (EW a.length (ZM 1 cs2 ds2 ls2 ps2))).take a.length = txs (EW a.length (ZM 1 cs2 ds2 ls2 ps2)) := List.take_of_length_le (by simp)
 have fin : awp Tryz.prog mdM Cz (Fin [RV.t 4] 135 2 [false, false] (.v (.bool true)) [.bot, .bot])
   [(1, .sl 1 1 (txs xs)), (2, .lp 0 0 0 0), (6, .lp 0 1 0 0), (7, .ls 1 2 0 a.length), (8, .lp 0 3 0 0), (9, .ls 1 4 0 xs.length), (10, .lp 0 5 0 0), (11, .ls 1 6 0 a.length)]
   [some (.box [.v (.int .i64 W), .v (.int .i64 T), .sl 1 1 (AC cs), .sl 1 1 (AB ds), .sl 1 1 (AB ls), .sl 1 1 (sls 1 ps)]), some (.box (jT 7 W2 T2 cs2 ds2 ls2 ps2)), some (.arr 1 (txs a)), some (.box (jT 11 W T cs ds ls ps)), some (.arr 1 (txs xs)), some (.box (jT 15 W2 T2 cs2 ds2 ls2 ps2)), some (.arr 1 (txs a)),
    some (.arr 1 (AC cs2)), some (.arr 1 (AB ds2)), some (.arr 1 (AB ls2)), some (.arr 1 (oss ps2)), some (.arr 1 (AC cs)), some (.arr 1 (AB ds)), some (.arr 1 (AB ls)), some (.arr 1 (oss ps)), some (.arr 1 (AC cs2)), some (.arr 1 (AB ds2)), some (.arr 1 (AB ls2)), some (.arr 1 (oss ps2))] := by
  simp [Cz]
  refine AA tos ?_
  simp
  refine AA eqs ?_
  simp
  refine AA mk ?_
  simp
  refine AA mks ?_
  simp [mk0]
  refine AA eqb2 ?_
  simp
  refine AA eqa ?_
  simp
  refine AA mk2 ?_
  simp
  refine AA mka ?_
  simp
  refine AA held ?_
  simp [mk3, tkm]
  refine AA hda ?_
  simp [mk4, tkm]
  refine AA tob ?_
  simp
  refine AA tos ?_
  simp
  refine AA im ?_
  simp
  refine AA eqb2 ?_
  simp
  refine AA eqa ?_
  simp
  refine AA held ?_
  simp [mk3, tkm]
  refine AA hda ?_
  simp [mk4, tkm]
 simp only [jT] at fin
 refine AE (md := mdM) (ms := [false, false]) EH (by simp) ?_
 simp [Ce]
 refine AA (K4 W T cs ds ls ps 1048576 (by omega) (by omega) (by omega) (by omega) (by omega) (by omega) (fun p h => by have := hp p h; omega)) ?_
 have hn : ZB 1048576 (XR cs ds ls ps) = ((1048576 - XR cs ds ls ps : Nat) : Int) := by unfold ZB; split <;> omega
 simp only [hn]
 generalize 1048576 - XR cs ds ls ps = n at *
 simp
 refine AA szs ?_
 simp
 refine AA tob ?_
 simp
 refine AA tos ?_
 simp
 refine AA sp ?_
 simp
 refine AA tob ?_
 simp
 refine AA tos ?_
 simp
 refine AA im ?_
 simp
 refine AA eqb2 ?_
 simp
 refine AA eqa ?_
 simp
 (repeat' first | omega | apply And.intro) <;>
 ·refine AA tob ?_
  simp
  refine AA eqb ?_
  simp
  exact fin
theorem Sl (W T : Int) (cs : List Bool) (ds ls : List Int) (ps : List (List Int)) (xs : List (List UInt8)) (hc : cs.length ≤ 9223372036854775807) (hd : ds.length ≤ 9223372036854775807) (hl : ls.length ≤ 9223372036854775807) (hb : ps.length ≤ 9223372036854775807) (hp : ∀ p ∈ ps, p.length ≤ 9223372036854775807) (hn : xs.length ≤ 9223372036854775807) (hx : ∀ x ∈ xs, x.length ≤ 9223372036854775807) :
  SoundAt Tryz.prog EG [bkA W T cs ds ls ps, .sl 1 1 (txs xs)] (.v (.bool true)) [.bot, .bot] := by
 by_cases h3 : (1048576 : Int) < XR cs ds ls ps
 ·refine AE (md := mdM) (ms := [false, false]) EH (by simp) ?_
  simp [Ce]
  refine AA (K4 W T cs ds ls ps 1048576 (by omega) (by omega) hc hd hl hb hp) ?_
  simp [ZB, h3]
 obtain ⟨c1, c2, c3, c4, c5⟩ := lh (cs := cs) (ds := ds) (ls := ls) (ps := ps) (n := 1048576) (by omega)
 by_cases h4 : xs.length + O3 xs ≤ 1048576 - XR cs ds ls ps
 case neg =>
  have szs := Lv xs (1048576 - XR cs ds ls ps) (by omega) hn hx
  rw [if_neg h4] at szs
  refine AE (md := mdM) (ms := [false, false]) EH (by simp) ?_
  simp [Ce]
  refine AA (K4 W T cs ds ls ps 1048576 (by omega) (by omega) hc hd hl hb hp) ?_
  have hn : ZB 1048576 (XR cs ds ls ps) = ((1048576 - XR cs ds ls ps : Nat) : Int) := by unfold ZB; split <;> omega
  simp only [hn]
  generalize 1048576 - XR cs ds ls ps = n at *
  simp
  refine AA szs ?_
  simp
 have c5' : ∀ p ∈ ps, p.length < 2 ^ 40 := fun p hp => by have := c5 p hp; omega
 have c5'' : ∀ p ∈ ps, p.length ≤ 2 ^ 30 := fun p hp => by have := c5 p hp; omega
 have hsum : EM ps < 2 ^ 21 := by
  have : XR cs ds ls ps ≤ 1048576 := by omega
  unfold XR at this; omega
 have hx' : ∀ x ∈ xs, x.length < 2 ^ 30 := fun x hx => by have := XP hx; omega
 have sp := Vc W T cs ds ls ps xs (by omega) (by omega) (by omega) (by omega) c5'' (by omega) hx'
 have im := Vb W T cs ds ls ps xs (by omega) (by omega) (by omega) (by omega) c5'' (by omega) hx'
 unfold mA at sp im
 cases ok : du W T cs ds ls ps xs with
 | false =>
   rw [ok] at sp im
   exact Lx W T cs ds ls ps xs 0 0 [] [] [] [] [] (by omega) (by omega) (by omega) hsum (by omega) c5' (by simp) (by simp) (by simp) (by simp) (by simp) (by simp [EM]) h3 h4 (by simp) sp im
 | true =>
   rw [ok] at sp im
   simp only [du, Bool.and_eq_true] at ok
   have hok := gn xs ok.1
   obtain ⟨b1, b2, b3, b4, b5, _⟩ := Gc hok
   have b6 := YW 40 _ b5
   have b7 := dr (W := W) (T := T) (cs := cs) (ds := ds) xs ls ps
   exact Lx W T cs ds ls ps xs W T cs ds _ _ _ (by omega) (by omega) (by omega) hsum (by omega) c5' (by omega) (by omega) (by omega) (by omega) b5 (by omega) h3 h4 (by omega) sp im
end Go.Proofs.Dev
namespace Go.Proofs.YtfkmfobbgoflgaaGreatDoor
open Go.ChangeShapes Go.WideShapes Go.ChangeAt Go.RowKit Go.Proofs.Dev
theorem fnExactBookSay_fact0 : (Rows.fnExactBookSayRow.wf (OpenSpec.ofChange Rows.fnExactBookSaySpec)) = true := by kernel_rfl
theorem fnExactBookSay_fact1 : (laidOutB Tryz.prog) = true := by kernel_rfl
theorem fnExactBookSay_fact2 : (mapsRowed Tryz.prog) = true := by kernel_rfl
theorem fnExactBookSay_fact3 : (Tryz.f6.params.all (Tryz.prog.readableRec ·)) = true := by kernel_rfl
theorem fnExactBookSay_fact4 : (namedTie Tryz.prog Rows.fnExactBookSayRow.named Rows.fnExactBookSaySpec.vars) = true := by kernel_rfl
theorem fnExactBookSay_fact5 : ((Rows.fnExactBookSayRow.stops == [])) = true := by kernel_rfl
theorem fnExactBookSay_fact6 : ((Tryz.prog.stops == [])) = true := by kernel_rfl
theorem fnExactBookSay_fact7 : ((Rows.fnExactBookSayRow.knobs == [])) = true := by kernel_rfl
theorem fnExactBookSay_fact8 : ((Tryz.prog.stopKnobs == [])) = true := by kernel_rfl
theorem fnExactBookSay_fact9 : ((Rows.fnExactBookSayRow.inPlace == Tryz.prog.inPlace 6)) = true := by kernel_rfl
theorem fnExactBookSay_fact10 : ((Rows.fnExactBookSayRow.unfollowed == Tryz.prog.unfollowed 6)) = true := by kernel_rfl
theorem fnExactBookSay_fact11 : ((Rows.fnExactBookSayRow.recurses == Tryz.prog.recurses 6)) = true := by kernel_rfl
theorem fnExactBookSay_fact12 : ((Rows.fnExactBookSayRow.named == Tryz.prog.varsNamed 6)) = true := by kernel_rfl
theorem fnExactBookSay_fact13 : ((Rows.fnExactBookSayRow.maps == (Tryz.f6.params.toList ++ Rows.fnExactBookSaySpec.plain.varTypes Tryz.prog).any (Tryz.prog.mapsRec ·))) = true := by kernel_rfl
theorem fnExactBookSay_fact14 : ((Rows.fnExactBookSayRow.ifaces == (Tryz.f6.params.toList ++ Rows.fnExactBookSaySpec.plain.varTypes Tryz.prog).any (Tryz.prog.ifacesRec ·))) = true := by kernel_rfl
theorem fnExactBookSay_fact15 : ((Rows.fnExactBookSayRow.mapsOut == Tryz.prog.mapsAmong Tryz.f6.resultTypes.toList)) = true := by kernel_rfl
theorem fnExactBookSay_fact16 : ((Rows.fnExactBookSayRow.loops == (Tryz.f6.params.toList ++ Rows.fnExactBookSaySpec.plain.varTypes Tryz.prog).any (Tryz.prog.loopsFrom ·))) = true := by kernel_rfl
theorem fnExactBookSay_fact17 : ((Rows.fnExactBookSayRow.wideKeys == (Tryz.f6.params.toList ++ Rows.fnExactBookSaySpec.plain.varTypes Tryz.prog ++ Tryz.f6.resultTypes.toList).any (Tryz.prog.wideKeysFrom ·))) = true := by kernel_rfl
theorem fnExactBookSay_fact18 : (Rows.fnExactBookSaySpec.vars.all (Tryz.prog.varReadable ·)) = true := by kernel_rfl
theorem fnExactBookSay_fact19 : (Tryz.f6.resultTypes.all (fun t => Tryz.prog.readableRec t && decide (t < Tryz.prog.types.size))) = true := by kernel_rfl
theorem fnExactBookSay_fact20 : ((Rows.fnExactBookSayRow.ifacesOut == Tryz.f6.resultTypes.toList.any (Tryz.prog.ifacesRec ·))) = true := by kernel_rfl
theorem fnExactBookSay_fact21 : ((Rows.fnExactBookSayRow.loopsOut == Tryz.f6.resultTypes.toList.any (Tryz.prog.loopsFrom ·))) = true := by kernel_rfl
theorem fnExactBookSay_fact22 : ((Rows.fnExactBookSayRow.plainKeys == Tryz.prog.plainKeys)) = true := by kernel_rfl
theorem fnExactBookSay_fact23 : (Rows.fnExactBookSayRow.shortTexts.isNone) = true := by kernel_rfl
theorem fnExactBookSay_fact24 : (Tryz.prog.stopsHeard) = true := by kernel_rfl
theorem fnExactBookSay_fact25 : (Tryz.prog.mayEnter) = true := WW
theorem fnExactBookSay_fact26 : ((Rows.fnExactBookSayRow.lifted == Tryz.prog.liftsFinal)) = true := by rw [TW]; rfl
theorem fnExactBookSay_fact27 : ((Tryz.prog.make == some Rows.fnExactBookSayRow.make)) = true := by rw [cY]; rfl
theorem fnExactBookSay_fact28 : Rows.fnExactBookSayRow.domain = [] ∧ Rows.fnExactBookSayRow.kinds = [] := ⟨rfl, rfl⟩
theorem fnExactBookSay_fact29 : ((Rows.fnExactBookSayRow.pinned == Rows.fnExactBookSayRow.pinnedBy)) = true := by kernel_rfl
theorem fnExactBookSay_fact30 : ((Rows.fnExactBookSayRow.veiled == (Tryz.f6.params.toList ++ Rows.fnExactBookSaySpec.plain.varTypes Tryz.prog ++ Tryz.f6.resultTypes.toList).any (Tryz.prog.veiledRec ·))) = true := by kernel_rfl
theorem fnExactBookSay_fact31 : (Rows.fnExactBookSayRow.veiledFits Tryz.prog Tryz.f6.params.toList (Tryz.f6.params.toList ++ Rows.fnExactBookSaySpec.plain.varTypes Tryz.prog ++ Tryz.f6.resultTypes.toList)) = true := by kernel_rfl
theorem fnExactBookSay_facts : joinedFacts Tryz.prog 6 Tryz.f6 Rows.fnExactBookSaySpec Rows.fnExactBookSayRow = true :=
 Up fnExactBookSay_fact0 fnExactBookSay_fact1 fnExactBookSay_fact2 fnExactBookSay_fact3 fnExactBookSay_fact4 fnExactBookSay_fact5 fnExactBookSay_fact6 fnExactBookSay_fact7 fnExactBookSay_fact8 fnExactBookSay_fact9 fnExactBookSay_fact10 fnExactBookSay_fact11 fnExactBookSay_fact12 fnExactBookSay_fact13 fnExactBookSay_fact14 fnExactBookSay_fact15 fnExactBookSay_fact16 fnExactBookSay_fact17 fnExactBookSay_fact18 fnExactBookSay_fact19 fnExactBookSay_fact20 fnExactBookSay_fact21 fnExactBookSay_fact22 fnExactBookSay_fact23 fnExactBookSay_fact24 fnExactBookSay_fact25 fnExactBookSay_fact26 fnExactBookSay_fact27 fnExactBookSay_fact28 fnExactBookSay_fact29 fnExactBookSay_fact30 fnExactBookSay_fact31
theorem fnExactBookSay_lifted (os : Os) (started : os.Started) (H : Type) (enc : TypeId × Value → H) :
  ReturnsInHanded {} Tryz.checked os 6 .any (fun w args => (Rows.fnExactBookSaySpec.pre enc Tryz.prog Tryz.f6 Rows.fnExactBookSayRow.domain false w args ∧ laidMetH Tryz.prog Rows.fnExactBookSayRow.laid w) ∧ sizedMet enc Tryz.prog Tryz.f6 (OpenSpec.ofChange Rows.fnExactBookSaySpec) false w args)
   (Rows.fnExactBookSaySpec.post enc Tryz.prog Tryz.f6 false true false false) := by
 refine Uq (C := Tryz.checked) (X := fun w _ => laidMetH Tryz.prog Rows.fnExactBookSayRow.laid w) (fun _ _ _ hh h => h.of_heap hh) own started (by kernel_rfl) Tryz.func6
  (ChangeSpec.witness_shaped (enc := enc) (C := Tryz.checked) (os := os) (X := fun w _ => laidMetH Tryz.prog Rows.fnExactBookSayRow.laid w) false (World.laidAll Tryz.prog os Rows.fnExactBookSayRow.laid) #[.agg #[.int .i64 0, .int .i64 0, .slice none 0 0, .slice none 0 0, .slice none 0 0, .slice none 0 0], .slice none 0 0] 8 (World.laidAll_os _ _ _)
   (World.shaped_of_ZipB (by kernel_rfl) (by kernel_rfl)) (by kernel_rfl) (by kernel_rfl) (by kernel_rfl)
   (by rw [MakeChecks.laidMetH_plain _ _ _ (by kernel_rfl)]; exact laidMet_laidAll _ (by kernel_rfl) (by kernel_rfl))) ?_
 intro W base args ds gs before hval0 hW hcnd _ hL hsh
 have hval : ∀ (j : Nat) t v, Tryz.f6.params[j]? = some t → args[j]? = some v → Value.okWide Tryz.prog W .any base t v := hval0
 have hW' : DataW.Whole enc Tryz.prog Tryz.f6.params.toList Rows.fnExactBookSaySpec.vars false W args.toList ds gs before := hW
 obtain ⟨p, q, hA0, hV, hpq, hfz, hnd⟩ := hW
 have hA : DataW.TrodAll enc Tryz.prog W 0 (fun _ => true) true Tryz.f6.params.toList args.toList ds p := hA0
 rw [Tryz.params6] at hA hval
 obtain ⟨v0, v1, d0, d1, p0, p1, rfl, rfl, rfl, h0, h1⟩ := trodAll_two hA
 obtain ⟨W0, T0, cs0, ds0, ls0, ps0, hc0, hd0, hl0, hb0, hp0, r0⟩ := ci Tryz.underlying53 nW Tryz.underlying51 oN jI jI lb ⟨rfl, rfl, rfl, rfl⟩ ⟨rfl, rfl, rfl⟩ nX nX lc Tryz.underlying3 Tryz.underlying3 Tryz.underlying32 Tryz.underlying4 nY Tryz.underlying35 Tryz.underlying35 Tryz.underlying3 nX Tryz.underlying36 Tryz.underlying35 jI (hval 0 53 v0 rfl rfl) h0
 obtain ⟨x1, hx1, hy1, r1⟩ := cj Tryz.underlying58 Tryz.underlying9 oG (by kernel_rfl) (hval 1 58 v1 rfl rfl) h1
 exact cP (tb := 4) (nT (by kernel_rfl) (by simp [Rows.fnExactBookSayRow]) hL (nU (by kernel_rfl) (by simp [Rows.fnExactBookSayRow]) (by simp [Rows.fnExactBookSayRow]) hsh hL)) (Sl W0 T0 cs0 ds0 ls0 ps0 x1 hc0 hd0 hl0 hb0 hp0 hx1 hy1) (RL.cons0 r0 (RL.cons0 r1 RL.nil0)) jA
  (by
   rw [Tryz.params6]
   intro t ht
   simp at ht
   rcases ht with rfl | rfl
   ·exact ⟨nZ, of_decide_eq_true (by kernel_rfl)⟩
   ·exact ⟨na, of_decide_eq_true (by kernel_rfl)⟩) hW' rfl (fun g1 _ => rfl) (by kernel_rfl) Tryz.underlying4 cZ gU Tryz.underlying58 lW
end Go.Proofs.YtfkmfobbgoflgaaGreatDoor
