/- Contracts of the functions of the program over slots and rows, each proved against the program itself; no condition beyond those that each theorem names. -/
import Derived.Test.YtfkmfobbgoflgaaGreatDoorAX
import Derived.Test.YtfkmfobbgoflgaaGreatDoorProg
import Derived.Test.YtfkmfobbgoflgaaGreatDoorAJ
import Derived.Test.YtfkmfobbgoflgaaGreatDoorAR
import Derived.Shelf.Strings.Builder1
import Derived.Shelf.Strings.Builder2
import Derived.Shelf.Strings.OnBuilder
set_option linter.unusedSimpArgs false
set_option linter.unusedVariables false
set_option maxRecDepth 100000
namespace Go.Proofs.Dev
@[simp] abbrev Dx : Nat := 113
def Ar : ACode := .seq (.reg [.o 9 (.bin .lss 0) [.t 8, .t 7]]) <| .seq (.cond (.t 9) ( .skip) ( .exit 0)) <| .seq (.block 1 ( .seq (.reg [.m 10 8, .m 5 10]) <| .seq (.reg [.m 11 1, .m 12 0, .m 13 5, .o 14 (.iadr 1) [.t 12, .t 13], .l 15 14, .o 16 (.bin .eql 1) [.t 11, .t 15]]) <| .cond (.t 16) ( .seq (.reg [.m 17 5, .m 4 17]) <| .ret) ( .skip))) <| .reg [.o 18 (.bin .add 0) [.t 8, .k 1], .m 8 18]
def Dy : ACode := .seq (.reg [.o 4 .mv [.k 0]]) <| .seq (.seq (.reg [.m 6 0, .n 7 6, .o 8 .mv [.k 0]]) <| .block 0 ( .loop [(0, 1)] [0, 1, 7, 8] Ar)) <| .seq (.reg [.o 4 .mv [.k (-1)]]) <| .ret
theorem Hn : cFn Tryz.prog Dx 19 [.t 4] Dy := ⟨Tryz.f113, _, Tryz.func113, rfl, by kernel_rfl, by kernel_rfl, by kernel_rfl, by kernel_rfl⟩
@[simp] abbrev NU : Nat := 52
def Fz : ACode := .seq (.seq (.reg [.f 14 0 5, .l 15 14, .o 16 (.bin .lss 0) [.t 15, .k 0]]) <| .cond (.t 16) ( .seq (.reg [.o 17 (.build dz []) [], .s (.store 3) [.t 2, .t 17], .o 3 .mv [.kb false]]) <| .ret) ( .skip)) <| .seq (.seq (.reg [.m 18 4, .n 19 18, .o 20 (.bin .gtr 0) [.t 19, .k 1]]) <| .cond (.t 20) ( .reg [.m 22 4, .o 23 (.iadr 1) [.t 22, .k 1], .l 24 23, .o 25 (.call 114 []) [.t 24], .m 21 25, .e 26 0 21, .e 27 1 21, .f 28 1 5, .s (.store 1) [.t 28, .t 26]]) ( .skip)) <| .seq (.seq (.reg [.m 29 4, .n 30 29, .o 31 (.bin .gtr 0) [.t 30, .k 2]]) <| .cond (.t 31) ( .reg [.m 32 4, .o 33 (.iadr 1) [.t 32, .k 2], .l 34 33, .o 35 (.call 115 []) [.c (.v (.string ⟨#[35, 101, 110, 119, 115]⟩)), .t 34], .o 36 (.mnx false) [.k 0, .t 35], .f 37 2 5, .s (.store 1) [.t 37, .t 36]]) ( .skip)) <| .seq (.seq (.reg [.la 38 3 5, .o 39 (.call 20 []) [.t 38], .m 40 0, .o 41 (.bin .neq 1) [.t 39, .t 40]]) <| .cond (.t 41) ( .seq (.reg [.o 42 (.build dz []) [], .s (.store 3) [.t 2, .t 42], .o 3 .mv [.kb false]]) <| .ret) ( .skip)) <| .seq (.reg [.la 43 3 5, .s (.store 3) [.t 2, .t 43], .o 3 .mv [.kb true]]) <| .ret
abbrev Dz : Plan := .al (.o 12 (.call 113 []) [.t 8, .t 11]) ( .take (.o 13 (.build dz [(0, 1)]) [.t 12]) <| .al (.s (.store 3) [.t 5, .t 13]) ( .done))
abbrev Jw : Plan := .al (.o 8 (.load false 1) [.c (.vp 0 [.sl 0 1 [.v (.string ⟨#[108, 97, 121]⟩), .v (.string ⟨#[108, 105, 102, 116]⟩), .v (.string ⟨#[102, 108, 105, 112]⟩), .v (.string ⟨#[102, 111, 114, 99, 101]⟩), .v (.string ⟨#[98, 97, 99, 107]⟩)]] 0)]) Dz
abbrev Jx : Plan := .alt (.o 12 (.call 113 []) [.t 8, .t 11]) ( .take (.o 13 (.build dz [(0, 1)]) [.t 12]) <| .al (.o 5 (.alloc dz) []) ( .al (.s (.store 3) [.t 5, .t 13]) ( .done))) <| .al (.o 5 (.alloc dz) []) Dz
def NV : ACode := .seq (.reg [.o 2 (.alloc dz) [], .o 3 .mv [.kb false]]) <| .seq (.reg [.m 6 0, .o 7 (.call 112 []) [.t 6, .c (.v (.string ⟨#[32]⟩))], .m 4 7]) <| .seq (.draw ( .take (.m 9 4) <| .take (.o 10 (.iadr 1) [.t 9, .k 0]) <| .alt (.o 8 (.load false 1) [.c (.vp 0 [.sl 0 1 [.v (.string ⟨#[108, 97, 121]⟩), .v (.string ⟨#[108, 105, 102, 116]⟩), .v (.string ⟨#[102, 108, 105, 112]⟩), .v (.string ⟨#[102, 111, 114, 99, 101]⟩), .v (.string ⟨#[98, 97, 99, 107]⟩)]] 0)]) ( .alt (.l 11 10) Jx <| .al (.o 5 (.alloc dz) []) ( .al (.l 11 10) Dz)) <| .alt (.l 11 10) ( .alt (.o 8 (.load false 1) [.c (.vp 0 [.sl 0 1 [.v (.string ⟨#[108, 97, 121]⟩), .v (.string ⟨#[108, 105, 102, 116]⟩), .v (.string ⟨#[102, 108, 105, 112]⟩), .v (.string ⟨#[102, 111, 114, 99, 101]⟩), .v (.string ⟨#[98, 97, 99, 107]⟩)]] 0)]) Jx <| .al (.o 5 (.alloc dz) []) Jw) <| .al (.o 5 (.alloc dz) []) ( .alt (.o 8 (.load false 1) [.c (.vp 0 [.sl 0 1 [.v (.string ⟨#[108, 97, 121]⟩), .v (.string ⟨#[108, 105, 102, 116]⟩), .v (.string ⟨#[102, 108, 105, 112]⟩), .v (.string ⟨#[102, 111, 114, 99, 101]⟩), .v (.string ⟨#[98, 97, 99, 107]⟩)]] 0)]) ( .al (.l 11 10) Dz) <| .al (.l 11 10) Jw))) <| .gc [] [0, 2, 4, 5] Fz
theorem Uo : cFn Tryz.prog NU 44 [.c 2 true 3, .t 3] NV := ⟨Tryz.f52, _, Tryz.func52, rfl, by kernel_rfl, by kernel_rfl, by kernel_rfl, by kernel_rfl⟩
@[simp] abbrev NW : Nat := 56
abbrev EJ : Plan := .take (.o 22 (.bin .eql 1) [.t 17, .t 21]) <| .done
def Cd : ACode := .seq (.seq (.reg [.m 11 6, .o 12 (.bin .leq 0) [.t 11, .k 4]]) <| .cond (.t 12) ( .skip) ( .exit 0)) <| .seq (.block 1 ( .seq (.draw ( .take (.m 15 4) <| .take (.o 16 (.iadr 1) [.t 15, .k 0]) <| .take (.m 19 6) <| .alt (.l 17 16) ( .al (.o 18 (.bsl 1) [.c (.v (.string ⟨#[108, 97, 121]⟩)), .c (.v (.string ⟨#[108, 105, 102, 116]⟩)), .c (.v (.string ⟨#[102, 108, 105, 112]⟩)), .c (.v (.string ⟨#[102, 111, 114, 99, 101]⟩)), .c (.v (.string ⟨#[98, 97, 99, 107]⟩))]) ( .take (.o 20 (.iadr 1) [.t 18, .t 19]) <| .al (.l 21 20) EJ)) <| .al (.o 18 (.bsl 1) [.c (.v (.string ⟨#[108, 97, 121]⟩)), .c (.v (.string ⟨#[108, 105, 102, 116]⟩)), .c (.v (.string ⟨#[102, 108, 105, 112]⟩)), .c (.v (.string ⟨#[102, 111, 114, 99, 101]⟩)), .c (.v (.string ⟨#[98, 97, 99, 107]⟩))]) ( .take (.o 20 (.iadr 1) [.t 18, .t 19]) <| .alt (.l 17 16) ( .al (.l 21 20) EJ) <| .al (.l 21 20) ( .al (.l 17 16) EJ)))) <| .cond (.t 22) ( .reg [.m 23 6, .f 24 0 5, .s (.store 1) [.t 24, .t 23]]) ( .skip))) <| .reg [.m 13 6, .o 14 (.bin .add 0) [.t 13, .k 1], .m 6 14]
def Bi : ACode := .seq (.seq (.reg [.m 33 7, .o 34 (.bin .leq 0) [.t 33, .k 4], .m 35 34, .mg 36 4 35 true, .g 37 (.len false) [.t 36] 35 true, .g 38 (.bin .gtr 0) [.t 37, .k 2] 35 true, .o 39 .pick [.t 35, .t 38, .kb false]]) <| .cond (.t 39) ( .skip) ( .exit 2)) <| .seq (.block 3 ( .seq (.draw ( .take (.m 42 4) <| .take (.o 43 (.iadr 1) [.t 42, .k 2]) <| .take (.m 45 7) <| .alt (.l 44 43) ( .al (.o 46 (.call 107 []) [.t 45]) ( .take (.o 47 (.bin .eql 1) [.t 44, .t 46]) <| .done)) <| .al (.o 46 (.call 107 []) [.t 45]) ( .al (.l 44 43) ( .take (.o 47 (.bin .eql 1) [.t 44, .t 46]) <| .done)))) <| .cond (.t 47) ( .reg [.m 48 7, .f 49 2 5, .s (.store 1) [.t 49, .t 48]]) ( .skip))) <| .reg [.m 40 7, .o 41 (.bin .add 0) [.t 40, .k 1], .m 7 41]
def NX : ACode := .seq (.reg [.o 2 (.alloc dz) [], .o 3 .mv [.kb false]]) <| .seq (.reg [.m 8 0, .o 9 (.call 116 []) [.t 8, .c (.v (.int .u8 (32)))], .m 4 9]) <| .seq (.reg [.o 10 (.build dz [(0, 1)]) [.k (-1)], .o 5 (.alloc dz) [], .s (.store 3) [.t 5, .t 10]]) <| .seq (.seq (.reg [.o 6 .mv [.k 0]]) <| .block 0 ( .loop [(4, 1)] [0, 2, 4, 5, 6] Cd)) <| .seq (.seq (.reg [.m 25 4, .n 26 25, .o 27 (.bin .gtr 0) [.t 26, .k 1]]) <| .cond (.t 27) ( .reg [.m 28 4, .o 29 (.iadr 1) [.t 28, .k 1], .l 30 29, .o 31 (.call 117 []) [.t 30], .f 32 1 5, .s (.store 1) [.t 32, .t 31]]) ( .skip)) <| .seq (.seq (.reg [.o 7 .mv [.k 1]]) <| .block 2 ( .loop [(4, 1)] [0, 2, 4, 5, 7] Bi)) <| .seq (.seq (.reg [.m 50 0, .o 51 (.bin .eql 1) [.t 50, .c (.v (.string ⟨#[]⟩))], .m 52 51, .g 53 (.load true 3) [.t 5] 52 false, .g 54 (.call 48 []) [.t 53] 52 false, .mg 55 0 52 false, .g 56 (.bin .neq 1) [.t 54, .t 55] 52 false, .o 57 .pick [.t 52, .kb true, .t 56]]) <| .cond (.t 57) ( .seq (.reg [.o 58 (.build dz []) [], .s (.store 3) [.t 2, .t 58], .o 3 .mv [.kb false]]) <| .ret) ( .skip)) <| .seq (.reg [.la 59 3 5, .s (.store 3) [.t 2, .t 59], .o 3 .mv [.kb true]]) <| .ret
theorem Up : cFn Tryz.prog NW 60 [.c 2 true 3, .t 3] NX := ⟨Tryz.f56, _, Tryz.func56, rfl, by kernel_rfl, by kernel_rfl, by kernel_rfl, by kernel_rfl⟩
open Go.RowKit
def kAt (p : List UInt8) : Nat → Int
 | 0 => -1
 | i + 1 => if p = Ch i then (i : Int) else kAt p i
theorem js (p : List UInt8) : kAt p 5 = KQ p := by
 by_cases h0 : p = Ch 0
 ·subst h0; decide
 by_cases h1 : p = Ch 1
 ·subst h1; decide
 by_cases h2 : p = Ch 2
 ·subst h2; decide
 by_cases h3 : p = Ch 3
 ·subst h3; decide
 by_cases h4 : p = Ch 4
 ·subst h4; decide
 have e0 : ¬ p = Ch ((0 : Nat) : Int) := h0
 have e1 : ¬ p = Ch ((1 : Nat) : Int) := h1
 have e2 : ¬ p = Ch ((2 : Nat) : Int) := h2
 have e3 : ¬ p = Ch ((3 : Nat) : Int) := h3
 have e4 : ¬ p = Ch ((4 : Nat) : Int) := h4
 rw [kAt, if_neg e4, kAt, if_neg e3, kAt, if_neg e2, kAt, if_neg e1, kAt, if_neg e0, kAt]
 simp [KQ, h0, h1, h2, h3, h4]
def wAt (p : List UInt8) : Nat → Int
 | 0 => 0
 | i + 1 => if p = N6 (i + 1) then ((i : Int) + 1) else wAt p i
theorem jt (p : List UInt8) : wAt p 4 = jR p := by
 by_cases h1 : p = N6 1
 ·subst h1; decide
 by_cases h2 : p = N6 2
 ·subst h2; decide
 by_cases h3 : p = N6 3
 ·subst h3; decide
 by_cases h4 : p = N6 4
 ·subst h4; decide
 have e1 : ¬ p = N6 (((0 : Nat) : Int) + 1) := h1
 have e2 : ¬ p = N6 (((1 : Nat) : Int) + 1) := h2
 have e3 : ¬ p = N6 (((2 : Nat) : Int) + 1) := h3
 have e4 : ¬ p = N6 (((3 : Nat) : Int) + 1) := h4
 rw [wAt, if_neg e4, wAt, if_neg e3, wAt, if_neg e2, wAt, if_neg e1, wAt]
 simp [jR, h1, h2, h3, h4]
abbrev rdE (s : List UInt8) (n : Nat) (t : Nat) (k : Nat) : ES := [(0, .v (tx s)), (2, .lp 0 0 0 0), (4, .ls 1 1 0 n), (5, .lp 0 2 0 0), (t, .v (.int .i64 (k : Int)))]
abbrev rdH (ps : List (List UInt8)) (a b c : Int) : AH := [some (.box [.v (.int .i64 0), .v (.int .i64 0), .v (.int .i64 0)]), some (.arr 1 (txs ps)), some (.box [.v (.int .i64 a), .v (.int .i64 b), .v (.int .i64 c)])]
set_option maxHeartbeats 8000000 in
theorem oC (s : List UInt8) (ps : List (List UInt8)) (h0 : 0 < ps.length) (Qc : AExit → ES → AH → Prop) (hq : Qc (.exit 0) (rdE s ps.length 6 5 ++ []) (rdH ps (KQ (nth ps 0)) 0 0) ∨ True)
  (hend : ∀ E, get E 0 = .v (tx s) → get E 2 = .lp 0 0 0 0 → get E 4 = .ls 1 1 0 ps.length → get E 5 = .lp 0 2 0 0 → Qc (.exit 0) E (rdH ps (KQ (nth ps 0)) 0 0)) :
  EO [(4, 1)] [0, 2, 4, 5, 6] (awp Tryz.prog mdT Cd) Qc (rdE s ps.length 6 0) (rdH ps (-1) 0 0) := by
 refine AF (fun m E H => ∃ k : Nat, m = 5 - k ∧ k ≤ 5 ∧ E = rdE s ps.length 6 k ∧ H = rdH ps (kAt (nth ps 0) k) 0 0) 5 ⟨0, rfl, by omega, rfl, rfl⟩ ?_
 rintro J hJ m E H ⟨k, rfl, hk, rfl, rfl⟩
 have hg : ps[0] = nth ps 0 := by simp [nth, h0]
 by_cases h5 : k = 5
 ·subst h5
  rw [js]
  simp [Cd]
  exact hend _ rfl rfl rfl rfl
 have nx1 : nth ps 0 = Ch k → C6 J (5 - k) (rdE s ps.length 6 (k + 1)) (rdH ps k 0 0) := fun e => ⟨_, by omega, hJ _ _ _ ⟨k + 1, rfl, by omega, rfl, by rw [kAt, if_pos e]⟩⟩
 have nx2 : nth ps 0 ≠ Ch k → C6 J (5 - k) (rdE s ps.length 6 (k + 1)) (rdH ps (kAt (nth ps 0) k) 0 0) := fun e => ⟨_, by omega, hJ _ _ _ ⟨k + 1, rfl, by omega, rfl, by rw [kAt, if_neg e]⟩⟩
 generalize kAt (nth ps 0) k = q at *
 generalize nth ps 0 = x at *
 have : k = 0 ∨ k = 1 ∨ k = 2 ∨ k = 3 ∨ k = 4 := by omega
 by_cases e : x = Ch (k : Int)
 ·have nx := nx1 e
  clear nx1 nx2 hend hq
  rcases this with rfl | rfl | rfl | rfl | rfl <;>
  ·simp [Ch] at e nx
   simp [Cd, h0, hg, e]
   (repeat' first | exact nx | apply And.intro)
 ·have nx := nx2 e
  clear nx1 nx2 hend hq
  rcases this with rfl | rfl | rfl | rfl | rfl <;>
  ·simp [Ch] at e nx
   simp [Cd, h0, hg, e]
   (repeat' first | exact nx | apply And.intro)
set_option maxHeartbeats 8000000 in
theorem mM (s : List UInt8) (ps : List (List UInt8)) (a b : Int) (hp : ps.length < 2 ^ 40) (Qc : AExit → ES → AH → Prop)
  (hend : ∀ E, get E 0 = .v (tx s) → get E 2 = .lp 0 0 0 0 → get E 5 = .lp 0 2 0 0 → Qc (.exit 2) E (rdH ps a b (if 2 < ps.length then jR (nth ps 2) else 0))) :
  EO [(4, 1)] [0, 2, 4, 5, 7] (awp Tryz.prog mdT Bi) Qc (rdE s ps.length 7 1) (rdH ps a b 0) := by
 by_cases h2 : 2 < ps.length
 case neg =>
  have h2' : ¬ (2 : Int) < (ps.length : Int) := by omega
  refine AF (fun m E H => m = 0 ∧ E = rdE s ps.length 7 1 ∧ H = rdH ps a b 0) 0 ⟨rfl, rfl, rfl⟩ ?_
  rintro J hJ m E H ⟨rfl, rfl, rfl⟩
  simp only [if_neg h2] at hend
  simp [Bi, h2']
  exact hend _ rfl rfl rfl
 have h2' : (2 : Int) < (ps.length : Int) := by omega
 rw [if_pos h2] at hend
 refine AF (fun m E H => ∃ k : Nat, m = 4 - k ∧ k ≤ 4 ∧ E = rdE s ps.length 7 (k + 1) ∧ H = rdH ps a b (wAt (nth ps 2) k)) 4 ⟨0, rfl, by omega, rfl, rfl⟩ ?_
 rintro J hJ m E H ⟨k, rfl, hk, rfl, rfl⟩
 have hg : ps[2] = nth ps 2 := by simp [nth, h2]
 by_cases h5 : k = 4
 ·subst h5
  rw [jt]
  simp [Bi]
  exact hend _ rfl rfl rfl
 have le := L3 ((k : Int) + 1)
 have nx1 : nth ps 2 = N6 ((k : Int) + 1) → C6 J (4 - k) (rdE s ps.length 7 (k + 2)) (rdH ps a b ((k : Int) + 1)) := fun e => ⟨_, by omega, hJ _ _ _ ⟨k + 1, rfl, by omega, rfl, by rw [wAt, if_pos e]⟩⟩
 have nx2 : nth ps 2 ≠ N6 ((k : Int) + 1) → C6 J (4 - k) (rdE s ps.length 7 (k + 2)) (rdH ps a b (wAt (nth ps 2) k)) := fun e => ⟨_, by omega, hJ _ _ _ ⟨k + 1, rfl, by omega, rfl, by rw [wAt, if_neg e]⟩⟩
 have e2 : ((k + 2 : Nat) : Int) = (k : Int) + 1 + 1 := by omega
 simp only [rdE, e2] at nx1 nx2
 have hk4 : (k : Int) + 1 ≤ 4 := by omega
 generalize wAt (nth ps 2) k = q at *
 generalize nth ps 2 = x at *
 generalize hlt : N6 ((k : Int) + 1) = y at *
 by_cases e : x = y
 ·have nx := nx1 e
  simp [Bi, h2, h2', hg, hk4]
  (repeat' first | omega | apply And.intro) <;>
  ·refine AA le ?_
   simp [e, h2, hg, nx]
   try omega
 ·have nx := nx2 e
  simp [Bi, h2, h2', hg, hk4]
  (repeat' first | omega | apply And.intro) <;>
  ·refine AA le ?_
   simp [e, h2, hg, nx]
   try omega
def ET : ACode := .seq (.seq (.reg [.m 50 0, .o 51 (.bin .eql 1) [.t 50, .c (.v (.string ⟨#[]⟩))], .m 52 51, .g 53 (.load true 3) [.t 5] 52 false, .g 54 (.call 48 []) [.t 53] 52 false, .mg 55 0 52 false, .g 56 (.bin .neq 1) [.t 54, .t 55] 52 false, .o 57 .pick [.t 52, .kb true, .t 56]]) <| .cond (.t 57) ( .seq (.reg [.o 58 (.build dz []) [], .s (.store 3) [.t 2, .t 58], .o 3 .mv [.kb false]]) <| .ret) ( .skip)) <| .seq (.reg [.la 59 3 5, .s (.store 3) [.t 2, .t 59], .o 3 .mv [.kb true]]) <| .ret
def Ez (d : Int × Int × Int) (b : Bool) : AV := .tup [A8 d, .v (.bool b)]
set_option maxHeartbeats 8000000 in
theorem Ax (s : List UInt8) (hs : s.length < 2 ^ 30) : SoundAt Tryz.prog NW [.v (tx s)] (Ez (Cj s) (Ci s)) [.bot] := by
 have cu := Ym s 32 hs
 have hlen := Zi 32 s
 obtain ⟨p, qs, hps⟩ := MS 32 s
 have h0 : 0 < (Db 32 s).length := by rw [hps]; simp
 have dt := NS (Th s)
 have dx : Th s = (KQ (nth (Db 32 s) 0), if 1 < (Db 32 s).length then bm (nth (Db 32 s) 1) else 0, if 2 < (Db 32 s).length then jR (nth (Db 32 s) 2) else 0) := rfl
 have rb : Ci s = (decide (s ≠ []) && decide (CA (Th s) = s)) := rfl
 have rdd : Cj s = if Ci s then Th s else (0, 0, 0) := rfl
 have l1 := Un (nth (Db 32 s) 1) (by have := aJ 32 s 1; omega)
 refine AE (md := mdT) (ms := [false]) Up (by simp) ?_
 simp [NX]
 refine AA cu ?_
 generalize Db 32 s = ps at *
 simp
 refine oC s ps h0 _ (.inr trivial) ?_
 intro E e0 e2 e4 e5
 have tail : ∀ (E : ES) (b : Int), (b = if 1 < ps.length then bm (nth ps 1) else 0) → get E 0 = .v (tx s) → get E 2 = .lp 0 0 0 0 → get E 5 = .lp 0 2 0 0 →
   awp Tryz.prog mdT ET (Fin [RV.c 2 true 3, RV.t 3] 60 1 [false] (Ez (Cj s) (Ci s)) [AV.bot]) E (rdH ps (KQ (nth ps 0)) b (if 2 < ps.length then jR (nth ps 2) else 0)) := by
  intro E b hb e0 e2 e5
  rw [← hb] at dx
  generalize (if 2 < ps.length then jR (nth ps 2) else 0) = c at *
  generalize KQ (nth ps 0) = a at *
  rw [dx] at dt rb rdd
  simp only [A8] at dt
  generalize CA (a, b, c) = t at *
  by_cases hs0 : s = []
  ·have rb' : Ci s = false := by rw [rb]; simp [hs0]
   rw [rdd, rb']
   subst hs0
   simp [ET, e0, e2, e5, Ez, A8]
  ·by_cases ht : t = s
   ·have rb' : Ci s = true := by rw [rb]; simp [hs0, ht]
    rw [rdd, rb']
    simp [ET, e0, e2, e5, hs0]
    refine AA dt ?_
    simp [ht, e0, e2, e5, Ez, A8]
   ·have rb' : Ci s = false := by rw [rb]; simp [ht]
    rw [rdd, rb']
    simp [ET, e0, e2, e5, hs0]
    refine AA dt ?_
    simp [ht, e0, e2, e5, Ez, A8]
 by_cases h1 : 1 < ps.length
 ·have h1' : (1 : Int) < (ps.length : Int) := by omega
  have hg1 : ps[1] = nth ps 1 := by simp [nth, h1]
  rw [if_pos h1] at tail
  simp [e0, e2, e4, e5, h1, h1', hg1]
  refine AA l1 ?_
  simp [e0, e2, e4, e5]
  refine mM s ps _ _ (by omega) _ ?_
  intro E' f0 f2 f5
  simp only [Ta, if_true, R7]
  exact tail E' _ rfl f0 f2 f5
 ·have h1' : ¬ (1 : Int) < (ps.length : Int) := by omega
  rw [if_neg h1] at tail
  simp [e0, e2, e4, e5, h1, h1']
  refine mM s ps _ _ (by omega) _ ?_
  intro E' f0 f2 f5
  simp only [Ta, if_true, R7]
  exact tail E' _ rfl f0 f2 f5
theorem Vq (s : List UInt8) (hs : s.length < 2 ^ 30) : SoundAt Tryz.prog 114 [.v (tx s)] (.tup [.v (.int .i64 (Tk s)), .bot]) [.bot] := by
 refine cw (xs := [tx s]) fun w S forb hg => ?_
 have tup : ∀ (w' : World) (n : Int) (u : Value), R (Xt w' [] forb) (.tup [.v (.int .i64 n), .bot]) [] (.tuple #[.int .i64 n, u]) := by
  intro w' n u
  rw [R]
  refine ⟨[_, _], rfl, ?_⟩
  rw [RL]; refine ⟨[], [], _, _, rfl, rfl, by rw [R]; exact ⟨rfl, rfl⟩, ?_⟩
  rw [RL]; exact ⟨[], [], _, _, rfl, rfl, by rw [R], by rw [RL]; exact ⟨rfl, rfl⟩⟩
 rcases h : Go.Lib.atoiAll s with v | _ | _
 ·
  have e : Tk s = v := by simp [Tk, h]
  rw [e]
  refine (Tryz.strconv_Atoi_ok ⟨s.toArray⟩ (by simp; omega) v h w).mono ?_
  rintro e w' ⟨rfl, hw⟩
  refine ⟨_, [], rfl, tup _ _ _, by simp, by simp, ?_⟩
  rcases hw with rfl | ⟨t, rfl⟩
  ·exact Kept.refl _ _ _
  ·exact Hb _ (Go.Lib.bytesWorld_below _ _ _)
 ·
  have e : Tk s = 0 := by simp [Tk, h]
  rw [e]
  obtain ⟨ev, h1, h2⟩ := hg.cell (g := 2) (p := iD) (by simp [gps])
  refine (Any.strconv_Atoi_syntax Tryz.laysC172 ⟨s.toArray⟩ (by simp; omega) h ev w h1 h2).mono ?_
  rintro e w' ⟨N, rfl, _, _, hb⟩
  exact ⟨_, [], rfl, tup _ _ _, by simp, by simp, Hb _ hb⟩
 ·
  have e : Tk s = Go.Lib.atoiSat s := by simp [Tk, h]
  rw [e]
  obtain ⟨ev, h1, h2⟩ := hg.cell (g := 3) (p := iD) (by simp [gps])
  refine (Tryz.strconv_Atoi_range ⟨s.toArray⟩ (by simp; omega) h ev w h1 h2).mono ?_
  rintro e w' ⟨N, rfl, _, _, hb⟩
  exact ⟨_, [], rfl, tup _ _ _, by simp, by simp, Hb _ hb⟩
def eg (x : List UInt8) : List (List UInt8) → Nat → Int
 | [], _ => -1
 | p :: ps, i => if x = p then i else eg x ps (i + 1)
theorem d7 {ls : List (List UInt8)} {x : List UInt8} {k : Nat} (h : k < ls.length) : eg x (ls.drop k) k = if x = ls[k] then (k : Int) else eg x (ls.drop (k + 1)) (k + 1) := by
 rw [List.drop_eq_getElem_cons h, eg]
theorem hZ {ls : List (List UInt8)} {k : Nat} (h : k < ls.length) : att ls (k : Int) = ls[k] := by simp [att, h]
theorem Uq (ls : List (List UInt8)) (x : List UInt8) (hl : ls.length < 2 ^ 30) : SoundAt Tryz.prog Dx [.sl 1 1 (txs ls), .v (tx x)] (.v (.int .i64 (eg x ls 0))) [.bot, .bot] := by
 refine AE (md := mdT) (ms := [false, false]) Hn (by simp) ?_
 simp [Dy]
 refine AF (fun m E H => ∃ k : Nat, m = ls.length - k ∧ k ≤ ls.length ∧ eg x (ls.drop k) k = eg x ls 0 ∧ H = [] ∧ E = [(0, .sl 1 1 (txs ls)), (1, .v (tx x)), (7, .v (.int .i64 ls.length)), (8, .v (.int .i64 (k : Int)))]) ls.length ⟨0, by simp⟩ ?_
 rintro J hJ m E H ⟨k, rfl, hk, hd, rfl, rfl⟩
 by_cases h : k < ls.length
 ·rw [d7 h] at hd
  by_cases hx : x = ls[k]
  ·rw [if_pos hx] at hd
   rw [← hd]
   simp [Ar, h, hZ h, ← hx]
  ·rw [if_neg hx] at hd
   have nx := hJ (ls.length - (k + 1)) [(0, .sl 1 1 (txs ls)), (1, .v (tx x)), (7, .v (.int .i64 ls.length)), (8, .v (.int .i64 ((k : Int) + 1)))] [] ⟨k + 1, rfl, by omega, hd, rfl, by simp⟩
   simp [Ar, h, hZ h, hx]
   exact ⟨⟨by omega, by omega⟩, _, by omega, nx⟩
 ·have hk' : k = ls.length := by omega
  subst hk'
  rw [List.drop_length] at hd
  rw [← hd]
  simp [Ar, eg]
def EU : ACode := .seq (.seq (.reg [.la 38 3 5, .o 39 (.call 20 []) [.t 38], .m 40 0, .o 41 (.bin .neq 1) [.t 39, .t 40]]) <| .cond (.t 41) ( .seq (.reg [.o 42 (.build dz []) [], .s (.store 3) [.t 2, .t 42], .o 3 .mv [.kb false]]) <| .ret) ( .skip)) <| .seq (.reg [.la 43 3 5, .s (.store 3) [.t 2, .t 43], .o 3 .mv [.kb true]]) <| .ret
def EV : ACode := .seq (.seq (.reg [.m 29 4, .n 30 29, .o 31 (.bin .gtr 0) [.t 30, .k 2]]) <| .cond (.t 31) ( .reg [.m 32 4, .o 33 (.iadr 1) [.t 32, .k 2], .l 34 33, .o 35 (.call 115 []) [.c (.v (.string ⟨#[35, 101, 110, 119, 115]⟩)), .t 34], .o 36 (.mnx false) [.k 0, .t 35], .f 37 2 5, .s (.store 1) [.t 37, .t 36]]) ( .skip)) <| EU
def EW : ACode := .seq (.seq (.reg [.f 14 0 5, .l 15 14, .o 16 (.bin .lss 0) [.t 15, .k 0]]) <| .cond (.t 16) ( .seq (.reg [.o 17 (.build dz []) [], .s (.store 3) [.t 2, .t 17], .o 3 .mv [.kb false]]) <| .ret) ( .skip)) <| .seq (.seq (.reg [.m 18 4, .n 19 18, .o 20 (.bin .gtr 0) [.t 19, .k 1]]) <| .cond (.t 20) ( .reg [.m 22 4, .o 23 (.iadr 1) [.t 22, .k 1], .l 24 23, .o 25 (.call 114 []) [.t 24], .m 21 25, .e 26 0 21, .e 27 1 21, .f 28 1 5, .s (.store 1) [.t 28, .t 26]]) ( .skip)) <| EV
theorem oh : Fz = EW := rfl
abbrev iA : List (List UInt8) := [[108, 97, 121], [108, 105, 102, 116], [102, 108, 105, 112], [102, 111, 114, 99, 101], [98, 97, 99, 107]]
abbrev f7 : List UInt8 := [35, 101, 110, 119, 115]
theorem f8 (x : List UInt8) : eg x iA 0 = KQ x := by
 simp only [eg, KQ, Ch]
 simp
def Zj (s : List UInt8) : Int × Int × Int := let ps := Db 32 s; (KQ (nth ps 0), if 1 < ps.length then Tk (nth ps 1) else 0, if 2 < ps.length then max 0 (Go.Lib.index f7 (nth ps 2)) else 0)
theorem ju : ∀ k : _root_.Fin 5, ∀ s : _root_.Fin 100, ∀ w : _root_.Fin 5, (if Ed ((k.val : Int), (s.val : Int), (w.val : Int)) then decide (Zj (CA ((k.val : Int), (s.val : Int), (w.val : Int))) = ((k.val : Int), (s.val : Int), (w.val : Int))) else true) = true := by decide +kernel
theorem f9 {d : Int × Int × Int} (h : Ed d = true) : Zj (CA d) = d := by
 obtain ⟨k, s, w⟩ := d
 obtain ⟨k', s', w', rfl, rfl, rfl⟩ := Ti h
 have := ju k' s' w'
 rw [if_pos h] at this
 simpa using this
theorem aX (s : List UInt8) : (decide (CA (Zj s) = s) && decide (s ≠ [])) = Ci s ∧ (Ci s = true → Zj s = Cj s) := fa fun e he hs => by rw [hs]; exact f9 he
theorem jv {s : List UInt8} (h : KQ (nth (Db 32 s) 0) < 0) : Ci s = false := by
 cases hr : Ci s with
 | false => rfl
 | true =>
   obtain ⟨h1, h2⟩ := Tj hr
   have h3 := (aX s).2 hr
   have h4 : (Zj s).1 = KQ (nth (Db 32 s) 0) := rfl
   rw [h3] at h4
   obtain ⟨k', s', w', e1, e2, e3⟩ := Ti (k := (Cj s).1) (s := (Cj s).2.1) (w := (Cj s).2.2) h2
   omega
theorem gA {s : List UInt8} (h : ¬ KQ (nth (Db 32 s) 0) < 0) : s ≠ [] := by
 rintro rfl
 exact h (by decide)
set_option maxHeartbeats 8000000 in
theorem Ay (s : List UInt8) (hs : s.length < 2 ^ 30) : SoundAt Tryz.prog NU [.v (tx s)] (Ez (Cj s) (Ci s)) [.bot] := by
 have cu := Um s 32 hs
 have hlen := Zi 32 s
 obtain ⟨p, qs, hps⟩ := MS 32 s
 have h0 : 0 < (Db 32 s).length := by rw [hps]; simp
 have dt := NT (Zj s)
 have dx : Zj s = (KQ (nth (Db 32 s) 0), if 1 < (Db 32 s).length then Tk (nth (Db 32 s) 1) else 0, if 2 < (Db 32 s).length then max 0 (Go.Lib.index f7 (nth (Db 32 s) 2)) else 0) := rfl
 have at1 := Vq (nth (Db 32 s) 1) (by have := aJ 32 s 1; omega)
 have ix2 := Ul f7 (nth (Db 32 s) 2) (by simp)
 have id0 := Uq iA (nth (Db 32 s) 0) (by simp)
 rw [f8] at id0
 obtain ⟨r1, r2⟩ := aX s
 have kn := @jv s
 have kn0 := @gA s
 have rdd : Cj s = if Ci s then Th s else (0, 0, 0) := rfl
 refine AE (md := mdT) (ms := [false]) Uo (by simp) ?_
 have T0 : ∀ E : ES, get E 0 = .v (tx s) → get E 2 = .lp 0 0 0 0 → get E 4 = .ls 1 1 0 (Db 32 s).length → get E 5 = .lp 0 2 0 0 →
   awp Tryz.prog mdT Fz (Fin [RV.c 2 true 3, RV.t 3] 44 1 [false] (Ez (Cj s) (Ci s)) [AV.bot]) E (rdH (Db 32 s) (KQ (nth (Db 32 s) 0)) 0 0) := by
  intro E e0 e2 e4 e5
  rw [oh]
  generalize Db 32 s = ps at *
  clear id0 cu
  by_cases hk : KQ (nth ps 0) < 0
  ·have rb' := kn hk
   rw [rdd, rb']
   simp [EW, e0, e2, e4, e5, hk, Ez, A8]
  have hne := kn0 hk
  rw [decide_eq_true hne, Bool.and_true] at r1
  have fin : ∀ (E : ES) (b c : Int), (b = if 1 < ps.length then Tk (nth ps 1) else 0) → (c = if 2 < ps.length then max 0 (Go.Lib.index f7 (nth ps 2)) else 0) → get E 0 = .v (tx s) → get E 2 = .lp 0 0 0 0 → get E 5 = .lp 0 2 0 0 →
    awp Tryz.prog mdT EU (Fin [RV.c 2 true 3, RV.t 3] 44 1 [false] (Ez (Cj s) (Ci s)) [AV.bot]) E (rdH ps (KQ (nth ps 0)) b c) := by
   intro E b c hb hc e0 e2 e5
   rw [← hb, ← hc] at dx
   generalize KQ (nth ps 0) = a at *
   rw [dx] at dt r1 r2
   simp only [A8] at dt
   generalize CA (a, b, c) = t at *
   by_cases ht : t = s
   ·have rb' : Ci s = true := by rw [← r1]; simp [ht]
    rw [← r2 rb', rb']
    simp [EU, e0, e2, e5]
    refine AA dt ?_
    simp [ht, e0, e2, e5, Ez, A8]
   ·have rb' : Ci s = false := by rw [← r1]; simp [ht]
    rw [rdd, rb']
    simp [EU, e0, e2, e5]
    refine AA dt ?_
    simp [ht, e0, e2, e5, Ez, A8]
  have mid : ∀ (E : ES) (b : Int), (b = if 1 < ps.length then Tk (nth ps 1) else 0) → get E 0 = .v (tx s) → get E 2 = .lp 0 0 0 0 → get E 4 = .ls 1 1 0 ps.length → get E 5 = .lp 0 2 0 0 →
    awp Tryz.prog mdT EV (Fin [RV.c 2 true 3, RV.t 3] 44 1 [false] (Ez (Cj s) (Ci s)) [AV.bot]) E (rdH ps (KQ (nth ps 0)) b 0) := by
   intro E b hb e0 e2 e4 e5
   by_cases h2 : 2 < ps.length
   ·have h2' : (2 : Int) < (ps.length : Int) := by omega
    have hg2 : ps[2] = nth ps 2 := by simp [nth, h2]
    rw [if_pos h2] at fin
    simp [EV, e0, e2, e4, e5, h2, h2', hg2]
    refine AA ix2 ?_
    simp [e0, e2, e4, e5]
    refine fin _ _ _ hb ?_ ?_ ?_ ?_
    ·split <;> omega
    all_goals simp [get, e0, e2, e5]
   ·have h2' : ¬ (2 : Int) < (ps.length : Int) := by omega
    rw [if_neg h2] at fin
    simp [EV, e0, e2, e4, e5, h2, h2']
    refine fin _ _ _ hb rfl ?_ ?_ ?_ <;> simp [get, e0, e2, e5]
  by_cases h1 : 1 < ps.length
  ·have h1' : (1 : Int) < (ps.length : Int) := by omega
   have hg1 : ps[1] = nth ps 1 := by simp [nth, h1]
   rw [if_pos h1] at mid
   simp [EW, e0, e2, e4, e5, hk, h1, h1', hg1]
   refine AA at1 ?_
   simp [e0, e2, e4, e5]
   refine mid _ _ rfl ?_ ?_ ?_ ?_ <;> simp [get, e0, e2, e4, e5]
  ·have h1' : ¬ (1 : Int) < (ps.length : Int) := by omega
   rw [if_neg h1] at mid
   simp [EW, e0, e2, e4, e5, hk, h1, h1']
   refine mid _ _ rfl ?_ ?_ ?_ ?_ <;> simp [get, e0, e2, e4, e5]
 simp [NV]
 refine AA cu ?_
 generalize Db 32 s = ps at *
 have hg0 : ps[0] = nth ps 0 := by simp [nth, h0]
 simp [h0, hg0]
 (repeat' first | omega | apply And.intro) <;>
 ·refine AA id0 ?_
  simp [txs]
  exact T0 _ rfl rfl rfl rfl
@[simp] abbrev K0 : Nat := 77
def Br : ACode := .seq (.seq (.reg [.m 21 7, .f 22 0 2, .l 23 22, .o 24 (.bin .lss 0) [.t 21, .t 23]]) <| .cond (.t 24) ( .skip) ( .exit 2)) <| .seq (.block 3 ( .seq (.reg [.m 27 6, .f 28 0 2, .l 29 28, .o 30 (.bin .mul 0) [.t 27, .t 29], .m 31 7, .o 32 (.bin .add 0) [.t 30, .t 31], .m 8 32]) <| .seq (.reg [.f 33 2 2, .l 34 33, .m 35 8, .o 36 (.iadr 1) [.t 34, .t 35], .l 37 36]) <| .cond (.t 37) ( .reg [.m 38 5, .m 39 1, .m 40 8, .o 41 (.iadr 1) [.t 39, .t 40], .l 42 41, .o 43 (.call 78 []) [.t 42], .o 44 (.bin .add 1) [.t 38, .t 43], .m 5 44]) ( .reg [.m 45 5, .o 46 (.bin .add 1) [.t 45, .c (.v (.string ⟨#[46]⟩))], .m 5 46]))) <| .reg [.m 25 7, .o 26 (.bin .add 0) [.t 25, .k 1], .m 7 26]
def Bt : ACode := .seq (.seq (.reg [.m 12 6, .o 13 (.bin .geq 0) [.t 12, .k 0], .m 14 13, .g 15 (.load true 3) [.t 2] 14 true, .mg 16 1 14 true, .g 17 (.call 121 []) [.t 15, .t 16] 14 true, .o 18 .pick [.t 14, .t 17, .kb false]]) <| .cond (.t 18) ( .skip) ( .exit 0)) <| .seq (.block 1 ( .seq (.seq (.reg [.o 7 .mv [.k 0]]) <| .block 2 ( .loop [(1, 1)] [1, 2, 5, 6, 7] Br)) <| .seq (.reg [.m 47 6, .o 48 (.bin .gtr 0) [.t 47, .k 0]]) <| .cond (.t 48) ( .reg [.m 49 5, .o 50 (.bin .add 1) [.t 49, .c (.v (.string ⟨#[47]⟩))], .m 5 50]) ( .skip))) <| .reg [.m 19 6, .o 20 (.bin .sub 0) [.t 19, .k 1], .m 6 20]
def K1 : ACode := .seq (.reg [.o 2 .box [.t 0], .o 4 .mv [.c (.v (.string ⟨#[]⟩))]]) <| .seq (.reg [.o 5 .mv [.c (.v (.string ⟨#[]⟩))]]) <| .seq (.seq (.reg [.f 9 1 2, .l 10 9, .o 11 (.bin .sub 0) [.t 10, .k 1], .m 6 11]) <| .block 0 ( .loop [(1, 1)] [1, 2, 5, 6] Bt)) <| .seq (.reg [.m 51 5, .m 4 51]) <| .ret
theorem Rv : cFn Tryz.prog K0 52 [.t 4] K1 := ⟨Tryz.f77, _, Tryz.func77, rfl, by kernel_rfl, by kernel_rfl, by kernel_rfl, by kernel_rfl⟩
@[simp] abbrev K2 : Nat := 129
def Gj : ACode := .seq (.reg [.o 2 .box [.t 0], .o 3 .box [.t 1], .o 4 .mv [.c (.v (.string ⟨#[]⟩))]]) <| .seq (.seq (.reg [.la 5 3 2, .l 6 3, .o 7 (.call 102 []) [.t 5, .t 6], .o 8 (.un .not) [.t 7]]) <| .cond (.t 8) ( .seq (.reg [.o 4 .mv [.c (.v (.string ⟨#[]⟩))]]) <| .ret) ( .skip)) <| .seq (.reg [.la 9 3 2, .o 10 (.mkfn 182) [.t 3], .o 11 (.call 180 []) [.t 9, .t 10], .m 4 11]) <| .ret
theorem Rw : cFn Tryz.prog K2 12 [.t 4] Gj := ⟨Tryz.f129, _, Tryz.func129, rfl, by kernel_rfl, by kernel_rfl, by kernel_rfl, by kernel_rfl⟩
@[simp] abbrev PJ : Nat := 182
def FC : ACode := .seq (.reg [.o 3 .mv [.c (.v (.int .u8 (0)))]]) <| .seq (.seq (.reg [.l 4 1, .m 5 0, .o 6 (.iadr 1) [.t 4, .t 5], .l 7 6, .o 8 (.bin .lss 0) [.t 7, .k 0]]) <| .cond (.t 8) ( .seq (.reg [.o 3 .mv [.c (.v (.int .u8 (46)))]]) <| .ret) ( .skip)) <| .seq (.reg [.l 9 1, .m 10 0, .o 11 (.iadr 1) [.t 9, .t 10], .l 12 11, .o 13 (.conv .u8) [.t 12], .o 14 (.bin .add 0) [.c (.v (.int .u8 (48))), .t 13], .m 3 14]) <| .ret
theorem PK : cFn Tryz.prog PJ 15 [.t 3] FC := ⟨Tryz.f182, _, Tryz.func182, rfl, by kernel_rfl, by kernel_rfl, by kernel_rfl, by kernel_rfl⟩
@[simp] abbrev Df : Nat := 180
def AY : ACode := .seq (.reg [.o 22 (.bin .lss 0) [.t 21, .t 20]]) <| .seq (.cond (.t 22) ( .skip) ( .exit 2)) <| .seq (.block 3 ( .seq (.reg [.m 23 21, .m 8 23]) <| .reg [.m 24 7, .m 25 8, .m 26 1, .m 27 6, .f 28 0 2, .l 29 28, .o 30 (.bin .mul 0) [.t 27, .t 29], .m 31 8, .o 32 (.bin .add 0) [.t 30, .t 31], .o 33 (.callv []) [.t 26, .t 32], .o 34 (.iadr 1) [.t 24, .t 25], .s (.store 1) [.t 34, .t 33]])) <| .reg [.o 35 (.bin .add 0) [.t 21, .k 1], .m 21 35]
def Az : ACode := .seq (.seq (.reg [.m 12 6, .o 13 (.bin .geq 0) [.t 12, .k 0]]) <| .cond (.t 13) ( .skip) ( .exit 0)) <| .seq (.block 1 ( .seq (.reg [.f 16 0 2, .l 17 16, .o 18 (.mksl 1 1 (.v (.int .u8 (0)))) [.t 17, .t 17], .m 7 18]) <| .seq (.seq (.reg [.m 19 7, .n 20 19, .o 21 .mv [.k 0]]) <| .block 2 ( .loop [(5, 1), (7, 1)] [1, 2, 5, 6, 7, 20, 21] AY)) <| .reg [.m 36 5, .m 37 7, .o 38 .str [.t 37], .o 39 (.bsl 1) [.t 38], .o 40 (.app 1 16 true) [.t 36, .t 39], .m 5 40])) <| .reg [.m 14 6, .o 15 (.bin .sub 0) [.t 14, .k 1], .m 6 15]
def Dg : ACode := .seq (.reg [.o 2 .box [.t 0], .o 4 .mv [.c (.v (.string ⟨#[]⟩))]]) <| .seq (.reg [.o 5 .mv [.c (.os 1 [])]]) <| .seq (.seq (.reg [.f 9 1 2, .l 10 9, .o 11 (.bin .sub 0) [.t 10, .k 1], .m 6 11]) <| .block 0 ( .loop [(5, 1)] [1, 2, 5, 6] Az)) <| .seq (.reg [.m 41 5, .o 42 (.call 226 []) [.t 41, .c (.v (.string ⟨#[47]⟩))], .m 4 42]) <| .ret
theorem GM : cFn Tryz.prog Df 43 [.t 4] Dg := ⟨Tryz.f180, _, Tryz.func180, rfl, by kernel_rfl, by kernel_rfl, by kernel_rfl, by kernel_rfl⟩
theorem d8 {W x : Nat} (cs : List Bool) (ds : List Int) (y : Nat) (h : x < W) : (MT W cs ds y).take (x + 1) = (MT W cs ds y).take x ++ [sgC cs ds (y * W + x)] := by
 rw [List.take_succ_eq_append_getElem (by simp [h])]
 simp [MT]
theorem gB (W : Nat) (cs : List Bool) (ds : List Int) {n : Nat} (h : 0 < n) : HC W cs ds n ≠ [] := by
 intro e
 have := congrArg List.length e
 simp at this
 omega
theorem WI (W : Nat) (cs : List Bool) (ds : List Int) {n : Nat} (h : 0 < n) : Eo 47 (HC W cs ds (n + 1)) = MT W cs ds n ++ 47 :: Eo 47 (HC W cs ds n) := by
 rw [HC, RP 47 _ (gB W cs ds h)]
theorem Ur (W : Nat) (cs : List Bool) (ds : List Int) : Eo 47 (HC W cs ds 1) = MT W cs ds 0 := rfl
theorem Xa {W : Nat} (cs : List Bool) (ds : List Int) : ∀ n : Nat, (Eo 47 (HC W cs ds n)).length ≤ n * (W + 1)
 | 0 => by simp [HC, Eo]
 | 1 => by rw [Ur]; simp
 | n + 2 => by
   rw [WI W cs ds (by omega)]
   have := Xa cs ds (n + 1) (W := W)
   have e : (n + 2) * (W + 1) = (n + 1) * (W + 1) + (W + 1) := by rw [show n + 2 = n + 1 + 1 by omega, Nat.succ_mul]
   simp
   omega
abbrev ptE (o : List UInt8) (ds : List Int) (y : Int) : ES := [(1, .sl 1 1 (AB ds)), (2, .lp 0 0 0 0), (5, .v (tx o)), (6, .v (.int .i64 y))]
abbrev oD (o : List UInt8) (ds : List Int) (y x : Int) : ES := [(1, .sl 1 1 (AB ds)), (2, .lp 0 0 0 0), (5, .v (tx o)), (6, .v (.int .i64 y)), (7, .v (.int .i64 x))]
set_option maxHeartbeats 2000000 in
theorem oE (W T : Nat) (cs : List Bool) (ds : List Int) (o : List UInt8) (y : Nat) (hW : W ≤ 6) (hT : T ≤ 6) (hy : y < T) (hl : cs.length = T * W) (hd : Cg cs ds = true) (ho : o.length ≤ 100) (Qc : AExit → ES → AH → Prop)
  (hend : ∀ E, get E 1 = .sl 1 1 (AB ds) → get E 2 = .lp 0 0 0 0 → get E 5 = .v (tx (o ++ MT W cs ds y)) → get E 6 = .v (.int .i64 y) → Qc (.exit 2) E [some (.box [.v (.int .i64 W), .v (.int .i64 T), .sl 1 1 (AC cs)])]) :
  EO [(1, 1)] [1, 2, 5, 6, 7] (awp Tryz.prog mdT Br) Qc (oD o ds y 0) [some (.box [.v (.int .i64 W), .v (.int .i64 T), .sl 1 1 (AC cs)])] := by
 refine AF (fun m E H => ∃ x : Nat, m = W - x ∧ x ≤ W ∧ E = oD (o ++ (MT W cs ds y).take x) ds y x ∧ H = [some (.box [.v (.int .i64 W), .v (.int .i64 T), .sl 1 1 (AC cs)])]) W ⟨0, by simp⟩ ?_
 rintro J hJ m E H ⟨x, rfl, hx, rfl, rfl⟩
 by_cases h : x < W
 ·have h' : (x : Int) < (W : Int) := by omega
  have hc := Wn (T := T) hy h
  have hdd : ds.length = cs.length := by simp only [Cg, Bool.and_eq_true, decide_eq_true_eq] at hd; exact hd.1
  have hp : T * W ≤ 6 * 6 := Nat.mul_le_mul hT hW
  have e1 : (y : Int) * (W : Int) = ((y * W : Nat) : Int) := by simp
  have hk1 : (y * W + x : Int) < (cs.length : Int) := by rw [e1]; omega
  have hk2 : (y * W + x : Int) < (ds.length : Int) := by rw [e1]; omega
  have hk0 : (0 : Int) ≤ (y : Int) * (W : Int) := by rw [e1]; omega
  have hk3 : (y : Int) * (W : Int) ≤ 36 := by rw [e1]; omega
  have e2 : ((y : Int) * (W : Int) + (x : Int)) = ((y * W + x : Nat) : Int) := by rw [Int.natCast_add, e1]
  have tk := d8 cs ds y h
  have hlt : ((MT W cs ds y).take x).length = x := by simp; omega
  have nx := hJ (W - (x + 1)) (oD (o ++ (MT W cs ds y).take (x + 1)) ds y ((x : Int) + 1)) _ ⟨x + 1, rfl, h, by simp, rfl⟩
  rw [tk, ← List.append_assoc] at nx
  generalize hr : o ++ (MT W cs ds y).take x = r at *
  have hrl : r.length ≤ 106 := by rw [← hr]; simp; omega
  have hdg : KO cs ds ((y : Int) * (W : Int) + (x : Int)) = true := by
   simp only [Cg, Bool.and_eq_true, decide_eq_true_eq, Co] at hd
   rw [e2]
   exact hd.2 (y * W + x) (by omega)
  have es : sgC cs ds (y * W + x) = if atb cs ((y : Int) * (W : Int) + (x : Int)) then b8 (48 + ati ds ((y : Int) * (W : Int) + (x : Int))) else 46 := by rw [e2]; rfl
  rw [es] at nx
  unfold KO at hdg
  cases hb : atb cs ((y : Int) * (W : Int) + (x : Int)) with
  | true =>
    rw [hb] at nx hdg
    simp at hdg nx
    have ln := Fy (ati ds ((y : Int) * (W : Int) + (x : Int))) (by omega) (by omega)
    rw [Zg (by omega)] at ln
    simp [Br, h', hb, hk1, hk2]
    (repeat' first | omega | apply And.intro) <;>
    ·refine AA ln ?_
     simp
     (repeat' first | omega | apply And.intro) <;> exact ⟨_, by omega, nx⟩
  | false =>
    rw [hb] at nx
    simp at nx
    simp [Br, h', hb, hk1, hk2]
    (repeat' first | omega | apply And.intro) <;> exact ⟨_, by omega, nx⟩
 ·have : x = W := by omega
  subst this
  simp [Br]
  exact hend _ rfl rfl (by rw [List.take_of_length_le (by simp)]; rfl) rfl
set_option maxHeartbeats 2000000 in
theorem Rx (W T : Nat) (cs : List Bool) (ds : List Int) (hb : cs.length < 2 ^ 40) (hd : ds.length < 2 ^ 40) (hT : T < 2 ^ 40) :
  SoundAt Tryz.prog K0 [.agg [.v (.int .i64 W), .v (.int .i64 T), .sl 1 1 (AC cs)], .sl 1 1 (AB ds)] (.v (tx (Tl W T cs ds))) [.bot, .bot] := by
 have pv := CP W T cs ds hb hd
 refine AE (md := mdT) (ms := [false, false]) Rv (by simp) ?_
 simp [K1]
 refine ⟨by omega, ?_⟩
 by_cases hv : (A0 W T cs && Cg cs ds) = true
 ·rw [hv] at pv
  rw [Tl, if_pos hv]
  simp only [Int.toNat_natCast]
  simp only [Bool.and_eq_true] at hv
  obtain ⟨hr, hg⟩ := hv
  simp only [A0, decide_eq_true_eq] at hr
  obtain ⟨w1, w2, t1, t2, hl, _⟩ := hr
  have hl' : cs.length = T * W := by
   have : (cs.length : Int) = ((T * W : Nat) : Int) := by rw [hl, Int.natCast_mul, Int.mul_comm]
   exact Int.ofNat.inj this
  have tot := Xa cs ds T (W := W)
  have hp : T * (W + 1) ≤ 6 * 7 := Nat.mul_le_mul (by omega) (by omega)
  refine AF (fun m E H => ∃ (n : Nat) (o : List UInt8), n = m ∧ n ≤ T ∧ o ++ Eo 47 (HC W cs ds n) = Eo 47 (HC W cs ds T) ∧ E = ptE o ds ((n : Int) - 1) ∧ H = [some (.box [.v (.int .i64 W), .v (.int .i64 T), .sl 1 1 (AC cs)])]) T ⟨T, [], by simp⟩ ?_
  rintro J hJ m E H ⟨n, o, rfl, hn, ho, rfl, rfl⟩
  cases n with
  | zero =>
    have ho' : o = Eo 47 (HC W cs ds T) := by simpa [HC, Eo] using ho
    subst ho'
    simp [Bt]
  | succ n =>
    have lo : o.length ≤ 42 := by have := congrArg List.length ho; rw [List.length_append] at this; omega
    have e1 : ((n + 1 : Nat) : Int) - 1 = (n : Int) := by omega
    rw [e1]
    have body := fun Qc hend => oE W T cs ds o n (by omega) (by omega) (by omega) hl' hg (by omega) Qc hend
    simp [Bt]
    refine AA pv ?_
    simp
    refine body _ ?_
    intro E g1 g2 g5 g6
    have lr : (o ++ MT W cs ds n).length ≤ 48 := by simp; omega
    cases n with
    | zero =>
      have nx := hJ 0 (ptE (o ++ MT W cs ds 0) ds (-1)) _ ⟨0, _, rfl, by omega, by rw [← ho, Ur]; simp [HC, Eo], rfl, rfl⟩
      simp [g1, g2, g5, g6]
      exact ⟨_, by omega, nx⟩
    | succ n =>
      have nx := hJ (n + 1) (ptE (o ++ MT W cs ds (n + 1) ++ [47]) ds (n : Int)) _ ⟨n + 1, o ++ MT W cs ds (n + 1) ++ [47], rfl, by omega, by rw [← ho, WI W cs ds (by omega : 0 < n + 1)]; simp, by rw [show ((n + 1 : Nat) : Int) - 1 = (n : Int) by omega], rfl⟩
      have hpos : (0 : Int) < (n : Int) + 1 := by omega
      generalize o ++ MT W cs ds (n + 1) = r at *
      simp [g1, g2, g5, g6, hpos]
      exact ⟨by omega, by omega, _, by omega, nx⟩
 ·have hv' : (A0 W T cs && Cg cs ds) = false := by simpa using hv
  rw [Tl, if_neg hv]
  rw [hv'] at pv
  refine AF (fun m E H => m = 0 ∧ E = ptE [] ds ((T : Int) - 1) ∧ H = [some (.box [.v (.int .i64 W), .v (.int .i64 T), .sl 1 1 (AC cs)])]) 0 ⟨rfl, rfl, rfl⟩ ?_
  rintro J hJ m E H ⟨rfl, rfl, rfl⟩
  by_cases h0 : 1 ≤ T
  ·have h0' : (1 : Int) ≤ (T : Int) := by omega
   simp [Bt, h0', h0]
   refine AA pv ?_
   simp
  ·have h0' : ¬ (1 : Int) ≤ (T : Int) := by omega
   have : T = 0 := by omega
   subst this
   simp [Bt]
def d1 (c : UInt8) : Int := bm [c]
def full {α : Type} (d : α) (f : UInt8 → α) (W n : Nat) (rest : List UInt8) : List α := List.replicate (n * W) d ++ rest.map f
def part {α : Type} (d : α) (f : UInt8 → α) (W n x : Nat) (row rest : List UInt8) : List α := List.replicate (n * W) d ++ ((row.take x).map f ++ (List.replicate (W - x) d ++ rest.map f))
theorem Yn {α : Type} (d : α) (f : UInt8 → α) (W n : Nat) (row rest : List UInt8) : part d f W n 0 row rest = full d f W (n + 1) rest := by
 unfold part full
 rw [Nat.succ_mul, ← List.replicate_append_replicate, List.append_assoc]
 rfl
theorem aY {α : Type} (d : α) (f : UInt8 → α) (W n : Nat) (row rest : List UInt8) (h : row.length = W) : part d f W n W row rest = full d f W n (row ++ rest) := by
 unfold part full
 rw [List.take_of_length_le (by omega)]
 simp
theorem Us {α : Type} (d : α) (f : UInt8 → α) (W n x : Nat) (row rest : List UInt8) (h : row.length = W) (hx : x ≤ W) : (part d f W n x row rest).length = n * W + W + rest.length := by
 unfold part
 simp
 omega
theorem aZ {α : Type} (d : α) (f : UInt8 → α) (W n x : Nat) (row rest : List UInt8) (h : row.length = W) (hx : x < row.length) : (part d f W n x row rest).set (n * W + x) (f row[x]) = part d f W n (x + 1) row rest := by
 unfold part
 rw [List.set_append_right _ _ (by simp), List.length_replicate, show n * W + x - n * W = x by omega, List.set_append_right _ _ (by simp; omega)]
 have e : x - ((row.take x).map f).length = 0 := by simp; omega
 rw [e, show W - x = (W - (x + 1)) + 1 by omega, List.replicate_succ, List.take_succ_eq_append_getElem hx, List.map_append, List.append_assoc]
 rfl
def toI (c : UInt8) : Int := (c.toNat : Int)
theorem d9 (xs : List Int) (i : Nat) (x : Int) : (u8s xs).set i (.v (.int .u8 x)) = u8s (xs.set i x) := by simp [u8s, List.map_set]
theorem eC (n : Nat) (x : Int) : List.replicate n (.v (.int .u8 x)) = u8s (List.replicate n x) := by simp [u8s]
end Go.Proofs.Dev
namespace Go.Proofs
open Go.Shelf
def Tryz.lays156_ren : Go.Shelf.Ren := ⟨fun | 156 => 226 | 165 => 257 | 166 => 46 | 169 => 47 | 240 => 104 | 241 => 278 | 276 => 158 | 277 => 287 | n => n, fun | 31 => 58 | 9 => 9 | 3 => 3 | 4 => 4 | 0 => 0 | 20 => 20 | 72 => 74 | 76 => 77 | 70 => 72 | 37 => 22 | 75 => 76 | 127 => 123 | 164 => 152 | 5 => 5 | 80 => 79 | n => n, fun | n => n⟩
theorem Tryz.lays156 : Go.Proofs.Lays.n156 Tryz.prog Tryz.lays156_ren := {
 mixed := by kernel_rfl
 f156 := Tryz.func226.trans (congrArg some (by kernel_rfl))
 f165 := Tryz.func257.trans (congrArg some (by kernel_rfl))
 f166 := Tryz.func46.trans (congrArg some (by kernel_rfl))
 f169 := Tryz.func47.trans (congrArg some (by kernel_rfl))
 f240 := Tryz.func104.trans (congrArg some (by kernel_rfl))
 f241 := Tryz.func278.trans (congrArg some (by kernel_rfl))
 f276 := Tryz.func158.trans (congrArg some (by kernel_rfl))
 f277 := Tryz.func287.trans (congrArg some (by kernel_rfl))
 t0 := Tryz.underlying0
 a0 := Tryz.isAgg0
 z0 := Tryz.sizeOf0
 v0 := Tryz.zeroValue0
 t3 := Tryz.underlying3
 a3 := Tryz.isAgg3
 z3 := Tryz.sizeOf3
 v3 := Tryz.zeroValue3
 t4 := Tryz.underlying4
 a4 := Tryz.isAgg4
 z4 := Tryz.sizeOf4
 v4 := Tryz.zeroValue4
 t9 := Tryz.underlying9
 a9 := Tryz.isAgg9
 z9 := Tryz.sizeOf9
 v9 := Tryz.zeroValue9
 t20 := Tryz.underlying20
 a20 := Tryz.isAgg20
 z20 := Tryz.sizeOf20
 v20 := Tryz.zeroValue20
 t31 := Tryz.underlying58
 a31 := Tryz.isAgg58
 z31 := Tryz.sizeOf58
 v31 := Tryz.zeroValue58
 t37 := Tryz.underlying22
 a37 := Tryz.isAgg22
 z37 := Tryz.sizeOf22
 v37 := Tryz.zeroValue22
 t70 := Tryz.underlying72
 a70 := Tryz.isAgg72
 z70 := Tryz.sizeOf72
 v70 := Tryz.zeroValue72
 t72 := Tryz.underlying74
 a72 := Tryz.isAgg74
 z72 := Tryz.sizeOf74
 v72 := Tryz.zeroValue74
 t75 := Tryz.underlying76
 a75 := Tryz.isAgg76
 z75 := Tryz.sizeOf76
 v75 := Tryz.zeroValue76
 t76 := Tryz.underlying77
 a76 := Tryz.isAgg77
 z76 := Tryz.sizeOf77
 v76 := Tryz.zeroValue77
 t127 := Tryz.underlying123
 a127 := Tryz.isAgg123
 z127 := Tryz.sizeOf123
 v127 := Tryz.zeroValue123
 t164 := Tryz.underlying152
 a164 := Tryz.isAgg152
 z164 := Tryz.sizeOf152
 v164 := Tryz.zeroValue152 }
theorem Tryz.Builder_Extra_156 : Builder.Extra Tryz.prog Tryz.lays156_ren := {
 sizeBuilder := by kernel_rfl
 liesBuilder := by kernel_rfl
 t5 := Tryz.underlying5
 a5 := Tryz.isAgg5
 z5 := Tryz.sizeOf5
 v5 := Tryz.zeroValue5
 infoByte := by kernel_rfl
 cellsByte := by kernel_rfl
 sizeByte := by kernel_rfl
 neB5 := by decide }
open Go.RowKit in
theorem Tryz.strings_Join_none (a : Option Addr) (c : Nat) (sep : ByteArray) (w : World) :
  Calls Tryz.prog 226 #[.slice a 0 c, .string sep] w fun e w' => e = .returned (.string ⟨#[]⟩) ∧ w' = w := Any.strings_Join_none Tryz.lays156 Tryz.Builder_Extra_156 a c sep w
open Go.RowKit in
theorem Tryz.strings_Join (bk o c : Nat) (xs : List ByteArray) (sep : ByteArray) (w : World) (hcells : ∀ (j : Nat) x, xs[j]? = some x → w.cell? ⟨bk, o + j, none⟩ = some (.string x)) (hbk : bk < w.heap.size) (hN : xs.length ≤ 140737488355328) (hcap : xs.length ≤ c) (hlen : (Lib.join (xs.map (·.data.toList)) sep.data.toList).length ≤ 140737488355328) :
  Calls Tryz.prog 226 #[.slice (some ⟨bk, o, none⟩) xs.length c, .string sep] w fun e w' => e = .returned (.string ⟨(Lib.join (xs.map (·.data.toList)) sep.data.toList).toArray⟩) ∧ Below w.heap.size w w' := Any.strings_Join Tryz.lays156 Tryz.Builder_Extra_156 bk o c xs sep w hcells hbk hN hcap hlen
end Go.Proofs
namespace Go.Proofs.Dev
open Go.RowKit
theorem eD (c : UInt8) : ∀ ls : List (List UInt8), Go.Lib.join ls [c] = Eo c ls
 | [] => rfl
 | [p] => by rw [Go.Lib.join_one]; rfl
 | p :: q :: ls => by
   have ih := eD c (q :: ls)
   rw [Go.Lib.join_cons] at ih ⊢
   rw [RP c p (by simp), ← ih]
   simp [Go.Lib.joinTail]
theorem mN {C : Ctx} {a b : AV} {S : List Nat} {us : List Value} (h : RL C [a, b] S us) : ∃ S1 S2 u v, S = S1 ++ S2 ∧ us = [u, v] ∧ R C a S1 u ∧ R C b S2 v := by
 rw [RL] at h
 obtain ⟨S1, S2, u, us', rfl, rfl, h1, h2⟩ := h
 rw [RL] at h2
 obtain ⟨S3, S4, v, us2, rfl, rfl, h3, h4⟩ := h2
 rw [RL] at h4
 obtain ⟨rfl, rfl⟩ := h4
 exact ⟨S1, S3, u, v, by simp, rfl, h1, h3⟩
theorem Yo {C : Ctx} : ∀ {ls : List (List UInt8)} {S : List Nat} {us : List Value}, RL C (txs ls) S us → us = ls.map tx
 | [], S, us, h => by
   have h' : RL C [] S us := h
   rw [RL] at h'
   exact h'.2
 | x :: xs, S, us, h => by
   have h' : RL C (.v (tx x) :: txs xs) S us := h
   rw [RL] at h'
   obtain ⟨S1, S2, u, us', rfl, rfl, h1, h2⟩ := h'
   rw [R] at h1
   rw [Yo h2, h1.2]
   rfl
theorem Oq (ls : List (List UInt8)) (c : UInt8) (hn : ls.length ≤ 1000) (hl : (Eo c ls).length ≤ 1000) : SoundAt Tryz.prog 226 [.sl 1 1 (txs ls), .v (tx [c])] (.v (tx (Eo c ls))) [.bot, .bot] := by
 intro w forb us S hr hnd hlt hforb
 obtain ⟨S1, S2, u, v, rfl, rfl, h1, h2⟩ := mN hr
 rw [R] at h2
 obtain ⟨rfl, rfl⟩ := h2
 rw [R] at h1
 obtain ⟨rfl, a, cap, rfl, hcap, h3⟩ := h1
 have fin : ∀ w', Kept w.heap.size [] w w' → ∃ v S', Ending.returned (Value.string ⟨(Eo c ls).toArray⟩) = .returned v ∧ RL (Xt w' S' forb) (.v (tx (Eo c ls)) :: [.bot, .bot]) S' (v :: [.slice a (txs ls).length cap, tx [c]]) ∧ S'.Nodup ∧ (∀ x ∈ S', x < w'.heap.size ∧ (w.heap.size ≤ x ∨ x ∈ ([] ++ [] : List Nat))) ∧ Kept w.heap.size ([] ++ []) w w' := by
  intro w' hk
  refine ⟨_, [], rfl, ?_, by simp, by simp, hk⟩
  rw [RL]; refine ⟨[], [], _, _, rfl, rfl, by rw [R]; exact ⟨rfl, rfl⟩, ?_⟩
  rw [RL]; refine ⟨[], [], _, _, rfl, rfl, by rw [R], ?_⟩
  rw [RL]; exact ⟨[], [], _, _, rfl, rfl, by rw [R], by rw [RL]; exact ⟨rfl, rfl⟩⟩
 by_cases h0 : ls = []
 ·subst h0
  refine (Tryz.strings_Join_none a cap ⟨[c].toArray⟩ w).mono ?_
  rintro e w' ⟨rfl, rfl⟩
  exact fin _ (Kept.refl _ _ _)
 ·rcases h3 with h3 | ⟨b, p, us, rfl, hb, _, hc, _, hrl⟩
  ·exact absurd (by simpa using h3) h0
  rw [MQ] at hrl
  have hus := Yo hrl
  subst hus
  have hx : (ls.map fun l => ByteArray.mk l.toArray).map (·.data.toList) = ls := by
   rw [List.map_map]
   conv => rhs; rw [← List.map_id ls]
   rfl
  have hjn : Go.Lib.join ((ls.map fun l => ByteArray.mk l.toArray).map (·.data.toList)) (ByteArray.mk [c].toArray).data.toList = Eo c ls := by rw [hx]; exact eD c ls
  have := Tryz.strings_Join b p cap (ls.map fun l => ByteArray.mk l.toArray) ⟨[c].toArray⟩ w (fun j x hj => by
   simp only [List.getElem?_map, Option.map_eq_some_iff] at hj
   obtain ⟨l, hl, rfl⟩ := hj
   exact hc j (tx l) (by simp [hl])) hb (by simp; omega) (by simp at hcap ⊢; exact hcap) (by rw [hjn]; omega)
  rw [hjn, List.length_map] at this
  simp only [Ni]
  refine this.mono ?_
  rintro e w' ⟨rfl, hbl⟩
  have := fin w' (Hb _ hbl)
  simpa using this
theorem be (ds : List Int) (k : Int) (h0 : 0 ≤ k) (h1 : k < ds.length) (h2 : -1 ≤ ati ds k) (h3 : ati ds k ≤ 6) :
  SoundAt Tryz.prog 182 [.v (.int .i64 k), .vp 1 [.sl 1 1 (AB ds)] 0] (.v (.int .u8 (if ati ds k < 0 then 46 else 48 + ati ds k))) [.bot, .bot] := by
 refine AE (md := mdT) (ms := [false, false]) PK (by simp) ?_
 by_cases h : ati ds k < 0
 ·simp [FC, h0, h1, h]
 ·simp [FC, h0, h1, h]
  omega
abbrev rtE (ds : List Int) (k : Nat) (y : Int) : ES := [(1, .fn 182 [.vp 1 [.sl 1 1 (AB ds)] 0]), (2, .lp 0 0 0 0), (5, .ls 1 1 0 k), (6, .v (.int .i64 y))]
theorem iB (l : List UInt8) : (l.map toI).map (fun n => UInt8.ofNat n.toNat) = l := by
 rw [List.map_map]
 conv => rhs; rw [← List.map_id l]
 apply List.map_congr_left
 intro c _
 show UInt8.ofNat (toI c).toNat = c
 apply UInt8.toNat_inj.1
 have := c.toNat_lt
 simp [toI]
abbrev oG (W : Nat) (ds : List Int) (k : Nat) (y x : Int) : ES := [(1, .fn 182 [.vp 1 [.sl 1 1 (AB ds)] 0]), (2, .lp 0 0 0 0), (5, .ls 1 1 0 k), (6, .v (.int .i64 y)), (7, .ls 1 2 0 W), (20, .v (.int .i64 W)), (21, .v (.int .i64 x))]
set_option maxHeartbeats 2000000 in
theorem oH (W T : Nat) (cs : List Bool) (ds : List Int) (rs : List (List UInt8)) (y : Nat) (hW : W ≤ 6) (hT : T ≤ 6) (hy : y < T) (hl : cs.length = T * W) (hd : Cg cs ds = true) (Qc : AExit → ES → AH → Prop)
  (hend : ∀ E, get E 1 = .fn 182 [.vp 1 [.sl 1 1 (AB ds)] 0] → get E 2 = .lp 0 0 0 0 → get E 5 = .ls 1 1 0 rs.length → get E 6 = .v (.int .i64 y) → get E 7 = .ls 1 2 0 W →
   Qc (.exit 2) E [some (.box [.v (.int .i64 W), .v (.int .i64 T), .sl 1 1 (AC cs)]), some (.arr 1 (txs rs)), some (.arr 1 (u8s ((MT W cs ds y).map toI)))]) :
  EO [(5, 1), (7, 1)] [1, 2, 5, 6, 7, 20, 21] (awp Tryz.prog mdT AY) Qc (oG W ds rs.length y 0) [some (.box [.v (.int .i64 W), .v (.int .i64 T), .sl 1 1 (AC cs)]), some (.arr 1 (txs rs)), some (.arr 1 (List.replicate W (.v (.int .u8 0))))] := by
 rw [eC]
 refine AF (fun m E H => ∃ x : Nat, m = W - x ∧ x ≤ W ∧ E = oG W ds rs.length y x ∧ H = [some (.box [.v (.int .i64 W), .v (.int .i64 T), .sl 1 1 (AC cs)]), some (.arr 1 (txs rs)), some (.arr 1 (u8s (part 0 toI W 0 x (MT W cs ds y) [])))]) W ⟨0, by simp [Yn, full]⟩ ?_
 rintro J hJ m E H ⟨x, rfl, hx, rfl, rfl⟩
 by_cases h : x < W
 ·have h' : (x : Int) < (W : Int) := by omega
  have hxr : x < (MT W cs ds y).length := by simp [h]
  have hc := Wn (T := T) hy h
  have hdd : ds.length = cs.length := by simp only [Cg, Bool.and_eq_true, decide_eq_true_eq] at hd; exact hd.1
  have hp : T * W ≤ 6 * 6 := Nat.mul_le_mul hT hW
  have e1 : (y : Int) * (W : Int) = ((y * W : Nat) : Int) := by simp
  have q0 : (0 : Int) ≤ (y : Int) * (W : Int) := by rw [e1]; omega
  have q1 : (y : Int) * (W : Int) ≤ 36 := by rw [e1]; omega
  have q2 : ((y : Int) * (W : Int) + (x : Int)) < (ds.length : Int) := by rw [e1]; omega
  have e2 : ((y : Int) * (W : Int) + (x : Int)) = ((y * W + x : Nat) : Int) := by rw [Int.natCast_add, e1]
  have hdg : KO cs ds ((y : Int) * (W : Int) + (x : Int)) = true := by
   simp only [Cg, Bool.and_eq_true, decide_eq_true_eq, Co] at hd
   rw [e2]
   exact hd.2 (y * W + x) (by omega)
  have es : (if ati ds ((y : Int) * (W : Int) + (x : Int)) < 0 then (46 : Int) else 48 + ati ds ((y : Int) * (W : Int) + (x : Int))) = toI (MT W cs ds y)[x] := by
   have e3 : (MT W cs ds y)[x] = if atb cs ((y : Int) * (W : Int) + (x : Int)) then b8 (48 + ati ds ((y : Int) * (W : Int) + (x : Int))) else 46 := by
    rw [e2]; simp only [MT, List.getElem_map, List.getElem_range]; rfl
   rw [e3]
   unfold KO at hdg
   cases hb : atb cs ((y : Int) * (W : Int) + (x : Int)) with
   | true =>
     rw [hb] at hdg
     simp at hdg
     rw [if_neg (by omega), if_pos rfl, toI, fc (by omega) (by omega)]
     omega
   | false =>
     rw [hb] at hdg
     simp at hdg
     rw [hdg]
     rfl
  have sg := be ds ((y : Int) * (W : Int) + (x : Int)) (by omega) q2 (by
   unfold KO at hdg
   split at hdg <;> simp at hdg <;> omega) (by
   unfold KO at hdg
   split at hdg <;> simp at hdg <;> omega)
  rw [es] at sg
  have st := aZ (0 : Int) toI W 0 x (MT W cs ds y) [] (by simp) hxr
  have l1 := Us (0 : Int) toI W 0 x (MT W cs ds y) [] (by simp) hx
  simp only [Nat.zero_mul, Nat.zero_add, List.length_nil, Nat.add_zero] at st l1
  have nx := hJ (W - (x + 1)) (oG W ds rs.length y ((x : Int) + 1)) _ ⟨x + 1, rfl, h, by simp, rfl⟩
  rw [← st] at nx
  generalize part 0 toI W 0 x (MT W cs ds y) [] = X at *
  generalize toI (MT W cs ds y)[x] = z at *
  have hX : x < X.length := by omega
  have qf : cL Tryz.prog 182 = true := by kernel_rfl
  simp [AY, h', hX, qf, h]
  refine ⟨by omega, by omega, ?_⟩
  refine AA sg ?_
  simp [d9, hX, h]
  exact ⟨by omega, _, by omega, nx⟩
 ·have : x = W := by omega
  subst this
  rw [aY _ _ _ _ _ _ (by simp)]
  simp [AY, full]
  apply hend <;> rfl
set_option maxHeartbeats 2000000 in
theorem Ut (W T : Nat) (cs : List Bool) (ds : List Int) (hr : A0 W T cs = true) (hg : Cg cs ds = true) :
  SoundAt Tryz.prog Df [.agg [.v (.int .i64 W), .v (.int .i64 T), .sl 1 1 (AC cs)], .fn 182 [.vp 1 [.sl 1 1 (AB ds)] 0]] (.v (tx (Eo 47 (HC W cs ds T)))) [.bot, .bot] := by
 refine AE (md := mdT) (ms := [false, false]) GM (by simp) ?_
 have hr' := hr
 simp only [A0, decide_eq_true_eq] at hr'
 obtain ⟨w1, w2, t1, t2, hl, _⟩ := hr'
 have hW6 : W ≤ 6 := by omega
 have hT6 : T ≤ 6 := by omega
 have hl' : cs.length = T * W := by
  have : (cs.length : Int) = ((T * W : Nat) : Int) := by rw [hl, Int.natCast_mul, Int.mul_comm]
  exact Int.ofNat.inj this
 have tot := Xa cs ds T (W := W)
 have hp : T * (W + 1) ≤ 6 * 7 := Nat.mul_le_mul hT6 (by omega)
 have jn := Oq (HC W cs ds T) 47 (by simp; omega) (by omega)
 simp [Dg]
 refine ⟨by omega, ?_⟩
 refine AF (fun m E H => ∃ (n : Nat) (rs : List (List UInt8)), n = m ∧ n ≤ T ∧ rs ++ HC W cs ds n = HC W cs ds T ∧ E = rtE ds rs.length ((n : Int) - 1) ∧
  H = [some (.box [.v (.int .i64 W), .v (.int .i64 T), .sl 1 1 (AC cs)]), some (.arr 1 (txs rs))]) T ⟨T, [], by simp⟩ ?_
 rintro J hJ m E H ⟨n, rs, rfl, hn, ho, rfl, rfl⟩
 cases n with
 | zero =>
   have ho' : rs = HC W cs ds T := by simpa [HC] using ho
   subst ho'
   rw [JD]
   have tk : List.take T (txs (HC W cs ds T)) = txs (HC W cs ds T) := List.take_of_length_le (by simp)
   simp [Az]
   refine AA jn ?_
   simp [tk]
 | succ n =>
   have la : rs.length ≤ 6 := by have := congrArg List.length ho; rw [List.length_append, JD, JD] at this; omega
   have e1 : ((n + 1 : Nat) : Int) - 1 = (n : Int) := by omega
   have w0 : (0 : Int) ≤ (W : Int) := by omega
   rw [e1]
   have nx := hJ n (rtE ds (rs ++ [MT W cs ds n]).length ((n : Int) - 1)) _ ⟨n, rs ++ [MT W cs ds n], rfl, by omega, by rw [← ho, HC]; simp, rfl, rfl⟩
   rw [Nj, ZC, List.length_append, List.length_singleton] at nx
   have body := oH W T cs ds rs n hW6 hT6 (by omega) hl' hg
   simp [Az, w0]
   refine ⟨by omega, ?_⟩
   refine body _ ?_
   intro E g1 g2 g5 g6 g7
   have tk : List.take W (u8s ((MT W cs ds n).map toI)) = u8s ((MT W cs ds n).map toI) := List.take_of_length_le (by simp)
   have hst := iB (MT W cs ds n)
   have hrw : W ≤ (MT W cs ds n).length := by simp
   generalize MT W cs ds n = row at *
   rw [List.map_map] at hst
   simp [g1, g2, g5, g6, g7, tk, hst, hrw, eu]
   exact ⟨by omega, by omega, _, by omega, nx⟩
theorem Ry (W T : Nat) (cs : List Bool) (ds : List Int) (hb : cs.length < 2 ^ 40) (hd : ds.length < 2 ^ 40) :
  SoundAt Tryz.prog K2 [.agg [.v (.int .i64 W), .v (.int .i64 T), .sl 1 1 (AC cs)], .sl 1 1 (AB ds)] (.v (tx (Tl W T cs ds))) [.bot, .bot] := by
 have pv := JR W T cs ds hb hd
 refine AE (md := mdT) (ms := [false, false]) Rw (by simp) ?_
 by_cases hv : (A0 W T cs && Cg cs ds) = true
 ·rw [Tl, if_pos hv]
  rw [hv] at pv
  simp only [Bool.and_eq_true] at hv
  have rt := Ut W T cs ds hv.1 hv.2
  simp [Gj]
  refine AA pv ?_
  simp
  refine AA rt ?_
  simp
 ·have hv' : (A0 W T cs && Cg cs ds) = false := by simpa using hv
  rw [Tl, if_neg hv]
  rw [hv'] at pv
  simp [Gj]
  refine AA pv ?_
  simp
end Go.Proofs.Dev
