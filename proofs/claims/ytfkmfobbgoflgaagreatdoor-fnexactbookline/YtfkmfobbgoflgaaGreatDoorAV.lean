/- Contracts of the functions of the program over slots and rows, each proved against the program itself; no condition beyond those that each theorem names. -/
import Derived.Test.YtfkmfobbgoflgaaGreatDoorAU
import Derived.Test.YtfkmfobbgoflgaaGreatDoorAQ
import Derived.Test.YtfkmfobbgoflgaaGreatDoorProg
import Derived.Test.YtfkmfobbgoflgaaGreatDoorAI
import Derived.Test.YtfkmfobbgoflgaaGreatDoorAS
set_option linter.unusedSimpArgs false
set_option linter.unusedVariables false
set_option maxRecDepth 100000
namespace Go.Proofs.Dev
theorem Rp (bs : List Int) (k : Int) (h0 : 0 ≤ k) (h1 : k < 2 ^ 60) (hb : bs.length < 2 ^ 40) :
  SoundAt Tryz.prog HZ [.os 1 (AB bs), .v (.int .i64 k)] (.v (.int .i64 (k + bs.length))) [.os 1 (AB (A9 bs.length k)), .bot] := by
 refine AE (md := md0) (ms := [true, false]) Lq (by simp) ?_
 simp [Ha]
 refine AF (fun m E H => ∃ i : Nat, m = bs.length - i ∧ i ≤ bs.length ∧ H = [some (.arr 1 (AB (A9 i k ++ bs.drop i)))] ∧ E = [(0, .ls 1 0 0 bs.length), (1, .v (.int .i64 (k + i))), (5, .v (.int .i64 i)), (19, .ls 1 0 0 bs.length)]) bs.length ⟨0, by simp [A9]⟩ ?_
 rintro J hJ m E H ⟨i, rfl, hi, rfl, rfl⟩
 simp [FG]
 refine ⟨fun h => ?_, fun h => ?_⟩
 ·simp [h]
  have e : (AB (A9 i k ++ bs.drop i)).set i (.v (.int .i64 (k + i))) = AB (A9 (i + 1) k ++ bs.drop (i + 1)) := by
   rw [EA, Vr _ _ _ _ (by simp [A9]) h, A9, A9, List.range_succ, List.map_append]; rfl
  simp [A9] at e ⊢
  refine ⟨by omega, by omega, by omega, _, ?_, hJ _ _ _ ⟨i + 1, rfl, h, ?_, ?_⟩⟩
  ·omega
  ·simp [A9, e]
  ·simp; omega
 ·have : i = bs.length := by omega
  subst this
  simp [A9]
theorem Rq (n : Nat) (k : Int) (h0 : 0 ≤ k) (h1 : k < 2 ^ 60) (hb : n < 2 ^ 40) :
  SoundAt Tryz.prog Hb [.sl 1 1 (AB (A9 n k)), .v (.int .i64 k)] (.v (.int .i64 (k + n))) [.bot, .bot] := by
 refine AE (md := md0) (ms := [false, false]) Lr (by simp) ?_
 simp [Hc]
 refine AF (fun m E H => ∃ i : Nat, m = n - i ∧ i ≤ n ∧ H = [] ∧ E = [(0, .sl 1 1 (AB (A9 n k))), (1, .v (.int .i64 (k + i))), (5, .v (.int .i64 i))]) n ⟨0, by simp⟩ ?_
 rintro J hJ m E H ⟨i, rfl, hi, rfl, rfl⟩
 simp [FH, FI]
 refine ⟨fun h => ?_, fun h => ?_⟩
 ·have e : ati (A9 n k) i = k + i := by simp [ati, A9, h]
  have hl := FI n k
  simp [e, h]
  refine ⟨by omega, by omega, _, by omega, hJ _ _ _ ⟨i + 1, rfl, h, rfl, ?_⟩⟩
  simp; omega
 ·have : i = n := by omega
  subst this
  simp
@[simp] theorem fH (c : Nat) (ps : List (List Int)) : (sls c ps).take ps.length = sls c ps := List.take_of_length_le (by simp)
def BM : Int → List (List Int) → List (List Int)
 | _, [] => []
 | k, p :: ps => A9 p.length k :: BM (k + p.length) ps
theorem bx (p : List Int) (ps : List (List Int)) : ED (p :: ps) = p.length + ED ps := by simp [ED]
theorem Ji : ∀ (k : Int) (a b : List (List Int)), BM k (a ++ b) = BM k a ++ BM (k + ED a) b
 | k, [], b => by simp [BM, ED]
 | k, p :: a, b => by
   rw [List.cons_append, BM, BM, Ji, bx, List.cons_append, show k + (p.length : Int) + (ED a : Int) = k + ((p.length + ED a : Nat) : Int) by omega]
@[simp] theorem Ug : ∀ (k : Int) (a : List (List Int)), (BM k a).length = a.length
  | k, [] => by simp [BM]
  | k, p :: a => by simp [BM, Ug]
@[simp] theorem fI (k : Int) (ps : List (List Int)) : (oss (BM k ps)).take ps.length = oss (BM k ps) := List.take_of_length_le (by simp)
theorem XY {ps : List (List Int)} {i : Nat} (k : Int) (h : i < ps.length) : BM k (ps.take (i + 1)) = BM k (ps.take i) ++ [A9 (pti ps i).length (k + ED (ps.take i))] := by
 rw [List.take_succ_eq_append_getElem h, Ji, D3 h]
 rfl
theorem Zt {ps : List (List Int)} {i : Nat} (k : Int) (h : i < ps.length) : pti (BM k ps) i = A9 (pti ps i).length (k + ED (ps.take i)) := by
 have e : BM k ps = BM k (ps.take i) ++ BM (k + ED (ps.take i)) (ps.drop i) := by
  rw [← Ji, List.take_append_drop]
 have hl : (ps.take i).length = i := by simp; omega
 rw [e, bL, List.getD_eq_getElem?_getD, List.getElem?_append_right (by simp [hl]), List.drop_eq_getElem_cons h]
 simp [hl, BM, D3 h]
theorem Rr (ps : List (List Int)) (k : Int) (h0 : 0 ≤ k) (h1 : k + ED ps < 2 ^ 60) (hb : ps.length < 2 ^ 40) (hp : ∀ p ∈ ps, p.length < 2 ^ 40) :
  SoundAt Tryz.prog LG [.os 1 (oss ps), .v (.int .i64 k)] (.v (.int .i64 (k + ED ps))) [.os 1 (oss (BM k ps)), .bot] := by
 refine AE (md := md0) (ms := [true, false]) Rl (by simp) ?_
 simp [LH]
 refine AF (fun m E H => ∃ i : Nat, m = ps.length - i ∧ i ≤ ps.length ∧ H = [some (.arr 1 (oss (BM k (ps.take i) ++ ps.drop i)))] ∧
  E = [(0, .ls 1 0 0 ps.length), (1, .v (.int .i64 (k + ED (ps.take i)))), (5, .v (.int .i64 i)), (19, .ls 1 0 0 ps.length)]) ps.length ⟨0, by simp [BM, ED]⟩ ?_
 rintro J hJ m E H ⟨i, rfl, hi, rfl, rfl⟩
 by_cases h : i < ps.length
 case neg =>
  have : i = ps.length := by omega
  subst this
  simp [Es]
 have hs := Pb h
 have hle := V9 (ps := ps) (i := i + 1)
 have hpl := hp _ (Kg h)
 have hX : (BM k (ps.take i)).length = i := by simp; omega
 have hget : (oss (BM k (ps.take i) ++ ps.drop i))[i]? = some (.os 1 (AB (pti ps i))) := by
  unfold oss
  rw [List.getElem?_map, List.getElem?_append_right (by omega), hX, Nat.sub_self, List.drop_eq_getElem_cons h, D3 h]
  rfl
 simp [Es, h]
 refine SQ rfl rfl (by simpa using hget) ?_
 intro u
 simp [N3]
 refine AA (Rp (pti ps i) (k + ED (ps.take i)) (by omega) (by omega) hpl) ?_
 simp
 refine ⟨15, u, 0, i, _, 1, 1, _, rfl, rfl, rfl, List.getElem?_set_self (by simp; omega), by simp, rfl, by decide, ?_⟩
 simp [c7]
 have e1 : (oss (BM k (ps.take i) ++ ps.drop i)).set i (.os 1 (AB (A9 (pti ps i).length (k + ED (ps.take i))))) = oss (BM k (ps.take (i + 1)) ++ ps.drop (i + 1)) := by
  rw [bK, Vr _ _ _ _ hX h, ← XY k h]
 rw [e1]
 refine ⟨by omega, _, by omega, hJ _ _ _ ⟨i + 1, rfl, h, rfl, ?_⟩⟩
 have e2 : k + (ED (ps.take i) : Int) + ((pti ps i).length : Int) = k + ((ED (ps.take (i + 1)) : Nat) : Int) := by omega
 rw [e2]
 rfl
theorem Rs (ps : List (List Int)) (k : Int) (h0 : 0 ≤ k) (h1 : k + ED ps < 2 ^ 60) (hb : ps.length < 2 ^ 40) (hp : ∀ p ∈ ps, p.length < 2 ^ 40) :
  SoundAt Tryz.prog LI [.sl 1 1 (sls 1 (BM k ps)), .v (.int .i64 k)] (.v (.int .i64 (k + ED ps))) [.bot, .bot] := by
 refine AE (md := md0) (ms := [false, false]) Rm (by simp) ?_
 simp [LJ]
 refine AF (fun m E H => ∃ i : Nat, m = ps.length - i ∧ i ≤ ps.length ∧ H = [] ∧
  E = [(0, .sl 1 1 (sls 1 (BM k ps))), (1, .v (.int .i64 (k + ED (ps.take i)))), (5, .v (.int .i64 i))]) ps.length ⟨0, by simp [ED]⟩ ?_
 rintro J hJ m E H ⟨i, rfl, hi, rfl, rfl⟩
 by_cases h : i < ps.length
 case neg =>
  have : i = ps.length := by omega
  subst this
  simp [Et]
 have hs := Pb h
 have hle := V9 (ps := ps) (i := i + 1)
 have hpl := hp _ (Kg h)
 have one := Rq (pti ps i).length (k + ED (ps.take i)) (by omega) (by omega) hpl
 rw [← Zt k h] at one
 have hn : ¬ (k + (ED (ps.take i) : Int) + ((pti ps i).length : Int) < 0) := by omega
 have e2 : k + (ED (ps.take i) : Int) + ((pti ps i).length : Int) = k + ((ED (ps.take (i + 1)) : Nat) : Int) := by omega
 simp [Et, h]
 refine AA one ?_
 simp [hn]
 refine ⟨by omega, _, by omega, hJ _ _ _ ⟨i + 1, rfl, h, rfl, ?_⟩⟩
 rw [e2]
 rfl
@[simp] abbrev KL : Nat := 125
def KM : ACode := .seq (.reg [.o 2 .mv [.c (.os 1 [])]]) <| .seq (.reg [.m 3 0, .o 4 (.call 174 []) [.t 3], .o 5 (.call 173 []) [.t 4], .m 2 5]) <| .ret
theorem Qs : cFn Tryz.prog KL 6 [.t 2] KM := ⟨Tryz.f125, _, Tryz.func125, rfl, by kernel_rfl, by kernel_rfl, by kernel_rfl, by kernel_rfl⟩
@[simp] abbrev E8 : Nat := 174
def E9 : ACode := .seq (.reg [.o 2 .mv [.c (.os 1 [])]]) <| .seq (.seq (.reg [.m 3 0, .o 4 (.nilq false) [.t 3]]) <| .cond (.t 4) ( .seq (.reg [.o 2 .mv [.c (.os 1 [])]]) <| .ret) ( .skip)) <| .seq (.reg [.o 5 (.bsl 1) [], .m 6 0, .o 7 (.app 1 1 true) [.t 5, .t 6], .m 2 7]) <| .ret
theorem KN : cFn Tryz.prog E8 8 [.t 2] E9 := ⟨Tryz.f174, _, Tryz.func174, rfl, by kernel_rfl, by kernel_rfl, by kernel_rfl, by kernel_rfl⟩
@[simp] abbrev LL : Nat := 153
def II : ACode := .seq (.seq (.reg [.m 6 5, .m 7 0, .n 8 7, .o 9 (.bin .lss 0) [.t 6, .t 8]]) <| .cond (.t 9) ( .skip) ( .exit 0)) <| .seq (.block 1 ( .seq (.seq (.reg [.m 12 0, .m 13 5, .o 14 (.iadr 1) [.t 12, .t 13], .l 15 14, .m 16 1, .o 17 (.bin .rem 0) [.t 16, .k 3], .o 18 (.bin .eql 0) [.t 17, .k 0], .o 19 (.bin .neq 2) [.t 15, .t 18]]) <| .cond (.t 19) ( .seq (.reg [.o 4 .mv [.k (-1)]]) <| .ret) ( .skip)) <| .reg [.m 20 1, .o 21 (.bin .add 0) [.t 20, .k 1], .m 1 21])) <| .reg [.m 10 5, .o 11 (.bin .add 0) [.t 10, .k 1], .m 5 11]
def LM : ACode := .seq (.reg [.o 4 .mv [.k 0]]) <| .seq (.seq (.reg [.o 5 .mv [.k 0]]) <| .block 0 ( .loop [(0, 1)] [0, 1, 5] II)) <| .seq (.reg [.m 22 1, .m 4 22]) <| .ret
theorem Rt : cFn Tryz.prog LL 23 [.t 4] LM := ⟨Tryz.f153, _, Tryz.func153, rfl, by kernel_rfl, by kernel_rfl, by kernel_rfl, by kernel_rfl⟩
@[simp] abbrev KO : Nat := 92
def KP : ACode := .seq (.reg [.o 2 .box [.t 0], .o 4 .mv [.k 0]]) <| .seq (.reg [.f 5 2 2, .l 6 5, .m 7 1, .o 8 (.call 153 []) [.t 6, .t 7], .m 1 8]) <| .seq (.seq (.reg [.m 9 1, .o 10 (.bin .lss 0) [.t 9, .k 0]]) <| .cond (.t 10) ( .seq (.reg [.o 4 .mv [.k (-1)]]) <| .ret) ( .skip)) <| .seq (.reg [.m 11 1, .m 4 11]) <| .ret
theorem Qt : cFn Tryz.prog KO 12 [.t 4] KP := ⟨Tryz.f92, _, Tryz.func92, rfl, by kernel_rfl, by kernel_rfl, by kernel_rfl, by kernel_rfl⟩
@[simp] abbrev MU : Nat := 28
def MV : ACode := .seq (.reg [.o 2 .box [.t 0], .o 4 .mv [.k 0]]) <| .seq (.reg [.f 5 0 2, .la 6 3 5, .m 7 1, .o 8 (.call 92 []) [.t 6, .t 7], .m 1 8]) <| .seq (.seq (.reg [.m 9 1, .o 10 (.bin .lss 0) [.t 9, .k 0]]) <| .cond (.t 10) ( .seq (.reg [.o 4 .mv [.k (-1)]]) <| .ret) ( .skip)) <| .seq (.reg [.f 11 3 2, .l 12 11, .m 13 1, .o 14 (.call 93 []) [.t 12, .t 13], .m 1 14]) <| .seq (.seq (.reg [.m 15 1, .o 16 (.bin .lss 0) [.t 15, .k 0]]) <| .cond (.t 16) ( .seq (.reg [.o 4 .mv [.k (-1)]]) <| .ret) ( .skip)) <| .seq (.reg [.f 17 4 2, .l 18 17, .m 19 1, .o 20 (.call 93 []) [.t 18, .t 19], .m 1 20]) <| .seq (.seq (.reg [.m 21 1, .o 22 (.bin .lss 0) [.t 21, .k 0]]) <| .cond (.t 22) ( .seq (.reg [.o 4 .mv [.k (-1)]]) <| .ret) ( .skip)) <| .seq (.reg [.f 23 5 2, .l 24 23, .m 25 1, .o 26 (.call 94 []) [.t 24, .t 25], .m 1 26]) <| .seq (.seq (.reg [.m 27 1, .o 28 (.bin .lss 0) [.t 27, .k 0]]) <| .cond (.t 28) ( .seq (.reg [.o 4 .mv [.k (-1)]]) <| .ret) ( .skip)) <| .seq (.reg [.m 29 1, .m 4 29]) <| .ret
theorem TU : cFn Tryz.prog MU 30 [.t 4] MV := ⟨Tryz.f28, _, Tryz.func28, rfl, by kernel_rfl, by kernel_rfl, by kernel_rfl, by kernel_rfl⟩
@[simp] abbrev MW : Nat := 27
def MX : ACode := .seq (.reg [.o 2 .box [.t 0], .o 4 .mv [.k 0]]) <| .seq (.reg [.f 5 0 2, .la 6 3 5, .m 7 1, .o 8 (.call 89 []) [.t 6, .t 7], .m 1 8]) <| .seq (.reg [.f 9 3 2, .l 10 9, .m 11 1, .o 12 (.call 90 []) [.t 10, .t 11], .m 1 12]) <| .seq (.reg [.f 13 4 2, .l 14 13, .m 15 1, .o 16 (.call 90 []) [.t 14, .t 15], .m 1 16]) <| .seq (.reg [.f 17 5 2, .l 18 17, .m 19 1, .o 20 (.call 91 []) [.t 18, .t 19], .m 1 20]) <| .seq (.reg [.m 21 1, .m 4 21]) <| .ret
theorem TV : cFn Tryz.prog MW 22 [.t 4] MX := ⟨Tryz.f27, _, Tryz.func27, rfl, by kernel_rfl, by kernel_rfl, by kernel_rfl, by kernel_rfl⟩
@[simp] abbrev FZ : Nat := 173
def Fa : ACode := .seq (.reg [.o 2 .mv [.c (.os 1 [])]]) <| .seq (.reg [.m 3 0, .m 4 0, .n 5 4, .m 6 0, .n 7 6, .o 8 (.slice 1 false false true true) [.t 3, .t 5, .t 7], .m 2 8]) <| .ret
theorem Kr : cFn Tryz.prog FZ 9 [.t 2] Fa := ⟨Tryz.f173, _, Tryz.func173, rfl, by kernel_rfl, by kernel_rfl, by kernel_rfl, by kernel_rfl⟩
@[simp] abbrev Nq : Nat := 119
abbrev DG : Plan := .alt (.o 21 (.app 1 8 true) [.t 19, .t 20]) (.alt (.o 23 (.call 146 []) [.t 22]) (.take (.o 25 (.build bz [(0, 3), (3, 1), (4, 1), (5, 1)]) [.t 18, .t 21, .t 23, .t 24]) (.alt (.s (.store 6) [.t 4, .t 25]) .done .stop)) .stop) .stop
abbrev IJ : Plan := .alt (.o 21 (.app 1 8 true) [.t 19, .t 20]) (.alt (.o 23 (.call 146 []) [.t 22]) (.alt (.o 24 (.bsl 1) []) (.take (.o 25 (.build bz [(0, 3), (3, 1), (4, 1), (5, 1)]) [.t 18, .t 21, .t 23, .t 24]) (.alt (.s (.store 6) [.t 4, .t 25]) .done .stop)) .stop) (.alt (.o 24 (.bsl 1) []) (.alt (.o 23 (.call 146 []) [.t 22]) (.take (.o 25 (.build bz [(0, 3), (3, 1), (4, 1), (5, 1)]) [.t 18, .t 21, .t 23, .t 24]) (.alt (.s (.store 6) [.t 4, .t 25]) .done .stop)) .stop) .stop)) (.alt (.o 24 (.bsl 1) []) DG .stop)
abbrev DH : Plan := .alt (.o 17 (.app 1 1 true) [.t 14, .t 16]) (.take (.o 18 (.build rz [(0, 1), (1, 1), (2, 1)]) [.t 11, .t 13, .t 17]) DG) .stop
abbrev IK : Plan := .alt (.o 17 (.app 1 1 true) [.t 14, .t 16]) (.take (.o 18 (.build rz [(0, 1), (1, 1), (2, 1)]) [.t 11, .t 13, .t 17]) (.alt (.o 19 (.bsl 1) []) DG .stop)) (.alt (.o 19 (.bsl 1) []) DH .stop)
abbrev IL : Plan := .alt (.o 17 (.app 1 1 true) [.t 14, .t 16]) (.take (.o 18 (.build rz [(0, 1), (1, 1), (2, 1)]) [.t 11, .t 13, .t 17]) IJ) (.alt (.o 24 (.bsl 1) []) DH .stop)
def LN : BCode := (.early [.f 10 0 2, .l 11 10, .f 12 1 2, .l 13 12, .f 15 2 2, .l 16 15, .m 20 1, .la 22 3 2] (.alt (.o 14 (.bsl 1) []) (.alt (.o 17 (.app 1 1 true) [.t 14, .t 16]) (.take (.o 18 (.build rz [(0, 1), (1, 1), (2, 1)]) [.t 11, .t 13, .t 17]) (.alt (.o 19 (.bsl 1) []) IJ (.alt (.o 24 (.bsl 1) []) (.alt (.o 19 (.bsl 1) []) DG .stop) .stop))) (.alt (.o 19 (.bsl 1) []) IL (.alt (.o 24 (.bsl 1) []) IK .stop))) (.alt (.o 19 (.bsl 1) []) (.alt (.o 14 (.bsl 1) []) IL (.alt (.o 24 (.bsl 1) []) (.alt (.o 14 (.bsl 1) []) DH .stop) .stop)) (.alt (.o 24 (.bsl 1) []) (.alt (.o 14 (.bsl 1) []) IK (.alt (.o 19 (.bsl 1) []) (.alt (.o 14 (.bsl 1) []) DH .stop) .stop)) .stop))))
def Nr : BCode := (.seq (.base (.reg [.o 2 .box [.t 0], .o 4 (.alloc bz) []])) (.seq (.base (.seq (.reg [.la 5 3 2, .m 6 1, .o 7 (.call 121 []) [.t 5, .t 6], .o 8 (.un .not) [.t 7]]) (.cond (.t 8) (.seq (.reg [.o 9 (.build bz []) [], .s (.store 6) [.t 4, .t 9]]) .ret) .skip))) (.seq (.frz 2 LN) (.base .ret))))
theorem Uh : gX Tryz.prog Nq 26 [(RV.c 4 true 6)] Nr := ⟨Tryz.f119, _, Tryz.func119, rfl, by kernel_rfl, by kernel_rfl, by kernel_rfl, by kernel_rfl⟩
theorem OL (xs : List Bool) (hx : xs.length < 2 ^ 40) : SoundAt Tryz.prog E8 [.sl 1 1 (AC xs)] (.os 1 (AC xs)) [.bot] := by
 refine AE (md := md0) (ms := [false]) KN (by simp) ?_
 simp [E9]
 refine ⟨fun h => by omega, fun h => ?_⟩
 subst h
 simp
theorem P6 (xs : List Bool) : SoundAt Tryz.prog FZ [.os 1 (AC xs)] (.os 1 (AC xs)) [.bot] := by
 refine AE (md := md0) (ms := [false]) Kr (by simp) ?_
 simp [Fa]
theorem Qu (xs : List Bool) (hx : xs.length < 2 ^ 40) : SoundAt Tryz.prog KL [.sl 1 1 (AC xs)] (.os 1 (AC xs)) [.bot] := by
 refine AE (md := md0) (ms := [false]) Qs (by simp) ?_
 simp [KM]
 refine AA (OL xs hx) ?_
 simp
 refine AA (P6 xs) ?_
 simp
def hD (W T : Int) (cs : List Bool) (ds : List Int) : AV := if (Az W T cs && Cd cs ds) = true then bkO W T cs ds (BO cs) [] else bkO 0 0 [] [] [] []
set_option maxHeartbeats 4000000 in
theorem Ns (W T : Int) (cs : List Bool) (ds : List Int) (hb : cs.length < 2 ^ 40) (hd : ds.length < 2 ^ 40) :
  SoundAt Tryz.prog Nq [.agg [.v (.int .i64 W), .v (.int .i64 T), .sl 1 1 (AC cs)], .sl 1 1 (AB ds)] (hD W T cs ds) [.bot, .bot] := by
 refine XB (md := md0) (ms := [false, false]) Uh (by simp) ?_
 simp [Nr]
 refine AA (CN W T cs ds hb hd) ?_
 cases hv : (Az W T cs && Cd cs ds) with
 | false => simp [hD, hv]
 | true =>
 have hr : Az W T cs = true := by simp only [Bool.and_eq_true] at hv; exact hv.1
 simp [hD, hv]
 refine XC rfl rfl rfl ?_
 have one := IA W T cs hb
 rw [if_pos hr] at one
 simp [LN]
 (repeat' first | assumption | omega | apply And.intro) <;>
 ·refine AA one ?_
  simp
theorem Ru (n : Nat) (k : Int) (h0 : 0 ≤ k) (h1 : k < 2 ^ 40) (hb : n < 2 ^ 40) :
  SoundAt Tryz.prog LL [.sl 1 1 (AC (Dv n k)), .v (.int .i64 k)] (.v (.int .i64 (k + n))) [.bot, .bot] := by
 refine AE (md := md0) (ms := [false, false]) Rt (by simp) ?_
 simp [LM]
 refine AF (fun m E H => ∃ i : Nat, m = n - i ∧ i ≤ n ∧ H = [] ∧ E = [(0, .sl 1 1 (AC (Dv n k))), (1, .v (.int .i64 (k + i))), (5, .v (.int .i64 i))]) n ⟨0, by simp⟩ ?_
 rintro J hJ m E H ⟨i, rfl, hi, rfl, rfl⟩
 simp [II, HD]
 refine ⟨fun h => ?_, fun h => ?_⟩
 ·have e : atb (Dv n k) i = ((k + i) % 3 == 0) := by simp [atb, Dv, h]
  have hl := HD n k
  simp [e, h]
  exact ⟨by omega, by omega, by omega, _, by omega, hJ _ _ _ ⟨i + 1, rfl, h, rfl, by simp; omega⟩⟩
 ·have : i = n := by omega
  subst this
  simp
theorem Qv (W T : Int) (n : Nat) (k : Int) (h0 : 0 ≤ k) (h1 : k < 2 ^ 40) (hb : n < 2 ^ 40) :
  SoundAt Tryz.prog KO [.agg [.v (.int .i64 W), .v (.int .i64 T), .sl 1 1 (AC (Dv n k))], .v (.int .i64 k)] (.v (.int .i64 (k + n))) [.bot, .bot] := by
 refine AE (md := md0) (ms := [false, false]) Qt (by simp) ?_
 simp [KP]
 refine AA (Ru n k h0 h1 hb) ?_
 have hn : ¬ (k + (n : Int) < 0) := by omega
 simp [hn]
def mkC (k : Int) (cs : List Bool) : List Bool := Dv cs.length k
def mkD (k : Int) (cs : List Bool) (ds : List Int) : List Int := A9 ds.length (k + cs.length)
def mkL (k : Int) (cs : List Bool) (ds ls : List Int) : List Int := A9 ls.length (k + cs.length + ds.length)
def mkP (k : Int) (cs : List Bool) (ds ls : List Int) (ps : List (List Int)) : List (List Int) := BM (k + cs.length + ds.length + ls.length) ps
def fJ (k : Int) (cs : List Bool) (ds ls : List Int) (ps : List (List Int)) : Int := k + cs.length + ds.length + ls.length + ED ps
@[simp] theorem jC (k : Int) (cs : List Bool) : (mkC k cs).length = cs.length := by simp [mkC]
@[simp] theorem jD (k : Int) (cs : List Bool) (ds : List Int) : (mkD k cs ds).length = ds.length := by simp [mkD]
@[simp] theorem jE (k : Int) (cs : List Bool) (ds ls : List Int) : (mkL k cs ds ls).length = ls.length := by simp [mkL]
@[simp] theorem jF (k : Int) (cs : List Bool) (ds ls : List Int) (ps : List (List Int)) : (mkP k cs ds ls ps).length = ps.length := by simp [mkP]
@[simp] theorem lO (k : Int) (cs : List Bool) : (AC (mkC k cs)).take cs.length = AC (mkC k cs) := List.take_of_length_le (by simp)
@[simp] theorem lP (k : Int) (cs : List Bool) (ds : List Int) : (AB (mkD k cs ds)).take ds.length = AB (mkD k cs ds) := List.take_of_length_le (by simp)
@[simp] theorem lQ (k : Int) (cs : List Bool) (ds ls : List Int) : (AB (mkL k cs ds ls)).take ls.length = AB (mkL k cs ds ls) := List.take_of_length_le (by simp)
@[simp] theorem lR (k : Int) (cs : List Bool) (ds ls : List Int) (ps : List (List Int)) : (oss (mkP k cs ds ls ps)).take ps.length = oss (mkP k cs ds ls ps) := List.take_of_length_le (by simp)
@[simp] theorem mO (k : Int) (cs : List Bool) (ds ls : List Int) : mkP k cs ds ls [] = [] := (rfl)
theorem MY (W T : Int) (cs : List Bool) (ds ls : List Int) (ps : List (List Int)) (k : Int) (h0 : 0 ≤ k) (h1 : k < 2 ^ 21) (hc : cs.length < 2 ^ 21) (hd : ds.length < 2 ^ 21) (hl : ls.length < 2 ^ 21) (hs : ED ps < 2 ^ 50) (hb : ps.length < 2 ^ 40) (hp : ∀ p ∈ ps, p.length < 2 ^ 40) :
  SoundAt Tryz.prog MW [bkO W T cs ds ls ps, .v (.int .i64 k)] (.v (.int .i64 (fJ k cs ds ls ps))) [bkO W T (mkC k cs) (mkD k cs ds) (mkL k cs ds ls) (mkP k cs ds ls ps), .bot] := by
 refine AE (md := md0) (ms := [true, false]) TV (by simp) ?_
 simp [MX]
 refine AA (QV W T cs k (by omega) (by omega) (by omega)) ?_
 simp
 refine AA (Lt ds (k + cs.length) (by omega) (by omega) (by omega)) ?_
 simp
 refine AA (Lt ls (k + cs.length + ds.length) (by omega) (by omega) (by omega)) ?_
 simp
 refine AA (Rr ps (k + cs.length + ds.length + ls.length) (by omega) (by omega) hb hp) ?_
 simp [fJ, mkC, mkD, mkL, mkP]
theorem TW (W T : Int) (cs : List Bool) (ds ls : List Int) (ps : List (List Int)) (k : Int) (h0 : 0 ≤ k) (h1 : k < 2 ^ 21) (hc : cs.length < 2 ^ 21) (hd : ds.length < 2 ^ 21) (hl : ls.length < 2 ^ 21) (hs : ED ps < 2 ^ 50) (hb : ps.length < 2 ^ 40) (hp : ∀ p ∈ ps, p.length < 2 ^ 40) :
  SoundAt Tryz.prog MU [bkA W T (mkC k cs) (mkD k cs ds) (mkL k cs ds ls) (mkP k cs ds ls ps), .v (.int .i64 k)] (.v (.int .i64 (fJ k cs ds ls ps))) [.bot, .bot] := by
 refine AE (md := md0) (ms := [false, false]) TU (by simp) ?_
 simp [MV]
 refine AA (Qv W T cs.length k (by omega) (by omega) (by omega)) ?_
 have h2 : ¬ (k + (cs.length : Int) < 0) := by omega
 simp [h2, mkC]
 refine AA (Lu ds.length (k + cs.length) (by omega) (by omega) (by omega)) ?_
 have h3 : ¬ (k + (cs.length : Int) + ds.length < 0) := by omega
 simp [h3, mkD]
 refine AA (Lu ls.length (k + cs.length + ds.length) (by omega) (by omega) (by omega)) ?_
 have h4 : ¬ (k + (cs.length : Int) + ds.length + ls.length < 0) := by omega
 simp [h4, mkL]
 refine AA (Rs ps (k + cs.length + ds.length + ls.length) (by omega) (by omega) hb hp) ?_
 have h5 : ¬ (k + (cs.length : Int) + ds.length + ls.length + ED ps < 0) := by omega
 simp [h5, mkP, fJ]
theorem TX (W T : Int) (cs : List Bool) (ls : List Int) (c : Int) (hr : Az W T cs = true) (hy : AO W T cs ls = true) :
  SoundAt Tryz.prog GQ [.agg [.v (.int .i64 W), .v (.int .i64 T), .sl 1 1 (AC cs)], .sl 1 1 (AB ls), .v (.int .i64 c)]
   (.tup [.os 1 (AB (Rn W T cs ls c)), .v (.bool (LK W T cs ls c))]) [.bot, .bot, .bot] := by
 have hl := An hy
 have h36 := AZ hr
 by_cases hin : 0 ≤ c ∧ c < ls.length
 ·have := Uf W T cs ls c.toNat hr hy (by omega)
  rw [show ((c.toNat : Nat) : Int) = c by omega] at this
  by_cases hz : ati ls c = 0
  ·have e : ET ls c = false := by simp [ET, hz]
   rw [if_pos hz] at this
   simpa [Rn, LK, hr, hy, e] using this
  ·have e : ET ls c = true := by simp [ET, hz, hin]
   rw [if_neg hz] at this
   simpa [Rn, LK, hr, hy, e] using this
 ·have e : ET ls c = false := by simp [ET]; omega
  refine AE (md := md5) (ms := [false, false, false]) Nh (by simp) ?_
  simp [Jg, Rn, LK, hr, hy, e]
  refine AA (BV W T cs ls (by omega) (by omega)) ?_
  simp [hr, hy]
  refine ⟨by omega, by omega, ?_⟩
  refine AA (EC (x := c) (lo := 0) (hi := (ls.length : Int) - 1) (by omega)) ?_
  simp
def Gv (W T : Int) (cs : List Bool) (ds ls : List Int) (kind spot way : Int) : List Int :=
 if kind = 0 then B9 W T cs ls spot way else if kind = 1 then (if ET ls spot = true then Kl W T ls spot else ls) else if kind = 2 then Gu W T ls spot else if kind = 3 then BA W T cs ds ls else []
def Qw (W T : Int) (cs : List Bool) (ds ls : List Int) (kind spot way : Int) : Bool :=
 if kind = 0 then BU W T cs ls spot way else if kind = 1 then ET ls spot else if kind = 2 then Fk W T ls spot else if kind = 3 then decide (BA W T cs ds ls ≠ ls) else false
def doI (W T : Int) (cs : List Bool) (ds ls : List Int) (ps : List (List Int)) (kind spot way : Int) : Bool × List Int × List (List Int) :=
 J7 (WS (kind, spot, way)) kind ls ps (Gv W T cs ds ls kind spot way) (Qw W T cs ds ls kind spot way && Af W T cs ds (Gv W T cs ds ls kind spot way))
theorem LO (W T : Int) (cs : List Bool) (ds ls : List Int) : (BA W T cs ds ls).length = ls.length := by unfold BA; rw [K5]
theorem RK (W T : Int) (cs : List Bool) (ds ls : List Int) (kind spot way : Int) : (Gv W T cs ds ls kind spot way).length ≤ ls.length := by
 unfold Gv
 split
 ·rw [UX]; exact Nat.le_refl _
 split
 ·split
  ·rw [MM]; exact Nat.le_refl _
  ·exact Nat.le_refl _
 split
 ·rw [XW]; exact Nat.le_refl _
 split
 ·rw [LO]; exact Nat.le_refl _
 ·simp
theorem Ad {W T : Int} {cs : List Bool} {ds ls : List Int} {ps : List (List Int)} (h : A0 W T cs ds ls ps = true) :
  Af W T cs ds ls = true ∧ ps.length ≤ 20 ∧ ∀ p ∈ ps, Af W T cs ds p = true := by
 simp only [A0, US, Bool.and_eq_true, decide_eq_true_eq, Cl] at h
 refine ⟨h.1.1, h.1.2, fun p hp => ?_⟩
 obtain ⟨i, hi, rfl⟩ := List.mem_iff_getElem.1 hp
 have := h.2 i hi
 rwa [D3 hi] at this
theorem b7 {W T : Int} {cs : List Bool} {ds ls : List Int} {ps : List (List Int)} (h1 : Af W T cs ds ls = true) (h2 : ps.length ≤ 20) (h3 : ∀ p ∈ ps, Af W T cs ds p = true) : A0 W T cs ds ls ps = true := by
 simp only [A0, US, Bool.and_eq_true, decide_eq_true_eq, Cl]
 refine ⟨⟨h1, h2⟩, fun i hi => ?_⟩
 rw [D3 hi]
 exact h3 _ (List.getElem_mem hi)
theorem Dm {W T : Int} {cs : List Bool} {ds ls : List Int} (h : Af W T cs ds ls = true) : cs.length ≤ 36 ∧ ds.length = cs.length ∧ ls.length = cs.length := by
 obtain ⟨hr, hd, hy, _⟩ := AR h
 have hd2 := hd
 simp only [Cd, Bool.and_eq_true, decide_eq_true_eq] at hd2
 exact ⟨AZ hr, hd2.1, An hy⟩
theorem Mz {k s w : Int} (h : WS (k, s, w) = true) : k = 0 ∨ k = 1 ∨ k = 2 ∨ k = 3 ∨ k = 4 := by
 unfold WS at h
 simp only at h
 split at h
 ·omega
 split at h
 ·omega
 split at h
 ·omega
 ·cases h
theorem Zu {ls q : List Int} {qs : List (List Int)} {n : List Int} {b : Bool} : J7 true 4 ls (qs ++ [q]) n b = (true, q, qs) := by simp [J7]
theorem Zv {ls : List Int} {n : List Int} {b : Bool} : J7 true 4 ls [] n b = (false, ls, []) := by simp [J7]
theorem P7 (W T : Int) (cs : List Bool) (ds ls : List Int) (ps : List (List Int)) (kind spot way : Int)
  (hc : cs.length ≤ 40) (hd : ds.length ≤ 40) (hl : ls.length ≤ 40) (hps : ps.length ≤ 40) (hp : ∀ p ∈ ps, p.length ≤ 40) :
  SoundAt Tryz.prog HI [bkA W T cs ds ls ps, M4 kind spot way]
   (.tup [if A0 W T cs ds ls ps = true then bkO W T cs ds (doI W T cs ds ls ps kind spot way).2.1 (doI W T cs ds ls ps kind spot way).2.2 else bkO 0 0 [] [] [] [], .v (.bool (A0 W T cs ds ls ps && (doI W T cs ds ls ps kind spot way).1))]) [.bot, .bot] := by
 have hv := CH W T cs ds ls ps (by omega) (by omega) (by omega) (by omega) (fun p h => by have := hp p h; omega)
 cases ok : A0 W T cs ds ls ps with
 | false =>
   rw [ok] at hv
   refine AE (md := md5) (ms := [false, false]) Pz (by simp) ?_
   simp [HJ]
   refine AA hv ?_
   simp
 | true =>
 rw [ok] at hv
 obtain ⟨hf, h20, hpf⟩ := Ad ok
 obtain ⟨hr, hdg, hy, ho⟩ := AR hf
 obtain ⟨l36, ld, ll⟩ := Dm hf
 have hnl := RK W T cs ds ls kind spot way
 have hnew := Ns W T cs ds (by omega) (by omega)
 have enew : hD W T cs ds = bkO W T cs ds (BO cs) [] := by simp [hD, hr, hdg]
 rw [enew] at hnew
 have hcopy := Nm Nn W T cs ds ls (BO cs) ps hc hd hl (by omega) hp (by simp [BO]; omega) hnew
 have hnamed := TT (kind, spot, way)
 refine SoundSet.at (SoundSet.mono ?_ (UY Pz W T cs ds ls ps kind spot way hc hd hl h20 hp true (WS (kind, spot, way)) (Gv W T cs ds ls kind spot way) (Qw W T cs ds ls kind spot way)
  (if Az W T cs && AO W T cs (Gv W T cs ds ls kind spot way) then (Ie (Gv W T cs ds ls kind spot way) : Int) else -1) (if Az W T cs && AO W T cs ls then (Ie ls : Int) else -1) hv (fun _ => hcopy) hnamed
  ?_ ?_ ?_ ?_ (H5 W T cs _ (by omega) (by omega)) (H5 W T cs ls (by omega) (by omega)) ?_ (by omega)
  (fun r ups => r = .tup [bkO W T cs ds (doI W T cs ds ls ps kind spot way).2.1 (doI W T cs ds ls ps kind spot way).2.2, .v (.bool (doI W T cs ds ls ps kind spot way).1)] ∧ ups = [.bot, .bot]) ?_ ?_ ?_ ?_ ?_ ?_))
 ·rintro r ups ⟨rfl, rfl⟩
  exact ⟨by simp, rfl⟩
 ·rintro _ rfl
  have := HG W T cs ls spot way hr hy
  simpa [Gv, Qw] using this
 ·rintro _ rfl
  have := TX W T cs ls spot hr hy
  simpa [Gv, Qw, Rn, LK, hr, hy] using this
 ·rintro _ rfl
  have := Ue W T cs ls spot (by omega) (by omega)
  simpa [Gv, Qw, g8, kL, hr, hy] using this
 ·rintro _ rfl
  have := TF W T cs ds ls (by omega) (by omega) (by omega)
  simpa [Gv, Qw, PR, hf] using this
 ·rintro _ rfl
  have h1 := WR hf
  have h2 := (Nd hf).1
  obtain ⟨_, _, hy2, _⟩ := AR h2
  simp only [Qw, Gv]
  simp [hr, hy, hy2]
  by_cases hq : BA W T cs ds ls = ls
  ·have : ¬ Ie ls < Ie (BA W T cs ds ls) := fun h => h1.1 h hq
   simp [hq]
  ·simp [hq, h1.2 hq]
 ·intro h; cases h
 ·intro _ hn
  have e : doI W T cs ds ls ps kind spot way = (false, ls, ps) := by simp [doI, J7, hn]
  rw [e]; exact ⟨rfl, rfl⟩
 ·intro _ hn hk he
  have hk4 : kind = 4 := by have := Mz hn; omega
  subst hk4 he
  have e : doI W T cs ds ls [] 4 spot way = (false, ls, []) := by unfold doI; rw [hn, Zv]
  rw [e]; exact ⟨rfl, rfl⟩
 ·intro _ hn hk q qs he
  have hk4 : kind = 4 := by have := Mz hn; omega
  subst hk4 he
  have e : doI W T cs ds ls (qs ++ [q]) 4 spot way = (true, q, qs) := by unfold doI; rw [hn, Zu]
  rw [e]; exact ⟨rfl, rfl⟩
 ·intro _ hn hk hb
  have e : doI W T cs ds ls ps kind spot way = (false, ls, ps) := by unfold doI; rw [hb]; simp [J7]; omega
  rw [e]; exact ⟨rfl, rfl⟩
 ·intro _ hn hk hb
  have e : doI W T cs ds ls ps kind spot way = (true, Gv W T cs ds ls kind spot way, FR ls ps) := by unfold doI; rw [hb, hn]; simp [J7]; omega
  rw [e]; exact ⟨rfl, rfl⟩
@[simp] abbrev Rv : Nat := 167
@[simp] abbrev Ui : Nat := 120
@[simp] abbrev Uj : Nat := 57
@[simp] abbrev P8 : Nat := 17
@[simp] abbrev TY : Nat := 58
@[simp] def md8 (f : Nat) : List Bool := if f = Rv then [true, false, false] else if f = Ui ∨ f = Uj ∨ f = TY then [true, false] else if f = 999999 ∨ f = 999999 ∨ f = 999999 ∨ f = 999999 ∨ f = P8 ∨ f = 999999 then [true] else md5 f
theorem dp {W T : Int} {cs : List Bool} {ds ls : List Int} {ps : List (List Int)} (k s w : Int) (h : A0 W T cs ds ls ps = true) : A0 W T cs ds (doI W T cs ds ls ps k s w).2.1 (doI W T cs ds ls ps k s w).2.2 = true := by
 obtain ⟨h1, h2, h3⟩ := Ad h
 unfold doI J7
 split
 ·exact h
 split
 ·rcases List.eq_nil_or_concat ps with rfl | ⟨qs, q, hq⟩
  ·exact h
  ·rw [List.concat_eq_append] at hq
   subst hq
   simp only [List.getLast?_append, List.getLast?_singleton, Option.some_or, List.dropLast_concat]
   simp at h2
   exact b7 (h3 q (by simp)) (by omega) (fun p hp => h3 p (by simp [hp]))
 split
 ·rename_i hb
  simp only [Bool.and_eq_true] at hb
  refine b7 hb.2 ?_ ?_
  ·simp [FR]; omega
  ·intro p hp
   have := List.mem_of_mem_drop hp
   simp at this
   rcases this with h4 | rfl
   ·exact h3 p h4
   ·exact h1
 ·exact h
abbrev hG (i : Nat) (W T : Int) (cs : List Bool) (ds ls : List Int) (ps : List (List Int)) : List AV := [.v (.int .i64 W), .v (.int .i64 T), .ls 1 i 0 cs.length, .ls 1 (i + 1) 0 ds.length, .ls 1 (i + 2) 0 ls.length, .ls 1 (i + 3) 0 ps.length]
end Go.Proofs.Dev
