/- Contracts of the functions of the program over slots and rows, each proved against the program itself; no condition beyond those that each theorem names. -/
import Derived.Test.YtfkmfobbgoflgaaGreatDoorAX
import Derived.Test.YtfkmfobbgoflgaaGreatDoorProg
import Derived.Test.YtfkmfobbgoflgaaGreatDoorAJ
import Derived.Test.YtfkmfobbgoflgaaGreatDoorAR
import Derived.Shelf.Strings.Builder1
import Derived.Shelf.Strings.Builder2
import Derived.Shelf.Strings.OnBuilder
set_option linter.unusedSimpArgs false
set_option linter.unusedVariables false
set_option maxRecDepth 100000
namespace Go.Proofs.Dev
@[simp] abbrev Dt : Nat := 113
def Ay : ACode := .seq (.reg [.o 9 (.bin .lss 0) [.t 8, .t 7]]) <| .seq (.cond (.t 9) ( .skip) ( .exit 0)) <| .seq (.block 1 ( .seq (.reg [.m 10 8, .m 5 10]) <| .seq (.reg [.m 11 1, .m 12 0, .m 13 5, .o 14 (.iadr 1) [.t 12, .t 13], .l 15 14, .o 16 (.bin .eql 1) [.t 11, .t 15]]) <| .cond (.t 16) ( .seq (.reg [.m 17 5, .m 4 17]) <| .ret) ( .skip))) <| .reg [.o 18 (.bin .add 0) [.t 8, .k 1], .m 8 18]
def Du : ACode := .seq (.reg [.o 4 .mv [.k 0]]) <| .seq (.seq (.reg [.m 6 0, .n 7 6, .o 8 .mv [.k 0]]) <| .block 0 ( .loop [(0, 1)] [0, 1, 7, 8] Ay)) <| .seq (.reg [.o 4 .mv [.k (-1)]]) <| .ret
theorem H4 : cFn Tryz.prog Dt 19 [.t 4] Du := ⟨Tryz.f113, _, Tryz.func113, rfl, by kernel_rfl, by kernel_rfl, by kernel_rfl, by kernel_rfl⟩
@[simp] abbrev NZ : Nat := 52
def F5 : ACode := .seq (.seq (.reg [.f 14 0 5, .l 15 14, .o 16 (.bin .lss 0) [.t 15, .k 0]]) <| .cond (.t 16) ( .seq (.reg [.o 17 (.build dz []) [], .s (.store 3) [.t 2, .t 17], .o 3 .mv [.kb false]]) <| .ret) ( .skip)) <| .seq (.seq (.reg [.m 18 4, .n 19 18, .o 20 (.bin .gtr 0) [.t 19, .k 1]]) <| .cond (.t 20) ( .reg [.m 22 4, .o 23 (.iadr 1) [.t 22, .k 1], .l 24 23, .o 25 (.call 114 []) [.t 24], .m 21 25, .e 26 0 21, .e 27 1 21, .f 28 1 5, .s (.store 1) [.t 28, .t 26]]) ( .skip)) <| .seq (.seq (.reg [.m 29 4, .n 30 29, .o 31 (.bin .gtr 0) [.t 30, .k 2]]) <| .cond (.t 31) ( .reg [.m 32 4, .o 33 (.iadr 1) [.t 32, .k 2], .l 34 33, .o 35 (.call 115 []) [.c (.v (.string ⟨#[35, 101, 110, 119, 115]⟩)), .t 34], .o 36 (.mnx false) [.k 0, .t 35], .f 37 2 5, .s (.store 1) [.t 37, .t 36]]) ( .skip)) <| .seq (.seq (.reg [.la 38 3 5, .o 39 (.call 20 []) [.t 38], .m 40 0, .o 41 (.bin .neq 1) [.t 39, .t 40]]) <| .cond (.t 41) ( .seq (.reg [.o 42 (.build dz []) [], .s (.store 3) [.t 2, .t 42], .o 3 .mv [.kb false]]) <| .ret) ( .skip)) <| .seq (.reg [.la 43 3 5, .s (.store 3) [.t 2, .t 43], .o 3 .mv [.kb true]]) <| .ret
abbrev Dv : Plan := .al (.o 12 (.call 113 []) [.t 8, .t 11]) ( .take (.o 13 (.build dz [(0, 1)]) [.t 12]) <| .al (.s (.store 3) [.t 5, .t 13]) ( .done))
abbrev Jw : Plan := .al (.o 8 (.load false 1) [.c (.vp 0 [.sl 0 1 [.v (.string ⟨#[108, 97, 121]⟩), .v (.string ⟨#[108, 105, 102, 116]⟩), .v (.string ⟨#[102, 108, 105, 112]⟩), .v (.string ⟨#[102, 111, 114, 99, 101]⟩), .v (.string ⟨#[98, 97, 99, 107]⟩)]] 0)]) Dv
abbrev Jx : Plan := .alt (.o 12 (.call 113 []) [.t 8, .t 11]) ( .take (.o 13 (.build dz [(0, 1)]) [.t 12]) <| .al (.o 5 (.alloc dz) []) ( .al (.s (.store 3) [.t 5, .t 13]) ( .done))) <| .al (.o 5 (.alloc dz) []) Dv
def Na : ACode := .seq (.reg [.o 2 (.alloc dz) [], .o 3 .mv [.kb false]]) <| .seq (.reg [.m 6 0, .o 7 (.call 112 []) [.t 6, .c (.v (.string ⟨#[32]⟩))], .m 4 7]) <| .seq (.draw ( .take (.m 9 4) <| .take (.o 10 (.iadr 1) [.t 9, .k 0]) <| .alt (.o 8 (.load false 1) [.c (.vp 0 [.sl 0 1 [.v (.string ⟨#[108, 97, 121]⟩), .v (.string ⟨#[108, 105, 102, 116]⟩), .v (.string ⟨#[102, 108, 105, 112]⟩), .v (.string ⟨#[102, 111, 114, 99, 101]⟩), .v (.string ⟨#[98, 97, 99, 107]⟩)]] 0)]) ( .alt (.l 11 10) Jx <| .al (.o 5 (.alloc dz) []) ( .al (.l 11 10) Dv)) <| .alt (.l 11 10) ( .alt (.o 8 (.load false 1) [.c (.vp 0 [.sl 0 1 [.v (.string ⟨#[108, 97, 121]⟩), .v (.string ⟨#[108, 105, 102, 116]⟩), .v (.string ⟨#[102, 108, 105, 112]⟩), .v (.string ⟨#[102, 111, 114, 99, 101]⟩), .v (.string ⟨#[98, 97, 99, 107]⟩)]] 0)]) Jx <| .al (.o 5 (.alloc dz) []) Jw) <| .al (.o 5 (.alloc dz) []) ( .alt (.o 8 (.load false 1) [.c (.vp 0 [.sl 0 1 [.v (.string ⟨#[108, 97, 121]⟩), .v (.string ⟨#[108, 105, 102, 116]⟩), .v (.string ⟨#[102, 108, 105, 112]⟩), .v (.string ⟨#[102, 111, 114, 99, 101]⟩), .v (.string ⟨#[98, 97, 99, 107]⟩)]] 0)]) ( .al (.l 11 10) Dv) <| .al (.l 11 10) Jw))) <| .gc [] [0, 2, 4, 5] F5
theorem Uc : cFn Tryz.prog NZ 44 [.c 2 true 3, .t 3] Na := ⟨Tryz.f52, _, Tryz.func52, rfl, by kernel_rfl, by kernel_rfl, by kernel_rfl, by kernel_rfl⟩
@[simp] abbrev Nb : Nat := 56
abbrev EE : Plan := .take (.o 22 (.bin .eql 1) [.t 17, .t 21]) <| .done
def CX : ACode := .seq (.seq (.reg [.m 11 6, .o 12 (.bin .leq 0) [.t 11, .k 4]]) <| .cond (.t 12) ( .skip) ( .exit 0)) <| .seq (.block 1 ( .seq (.draw ( .take (.m 15 4) <| .take (.o 16 (.iadr 1) [.t 15, .k 0]) <| .take (.m 19 6) <| .alt (.l 17 16) ( .al (.o 18 (.bsl 1) [.c (.v (.string ⟨#[108, 97, 121]⟩)), .c (.v (.string ⟨#[108, 105, 102, 116]⟩)), .c (.v (.string ⟨#[102, 108, 105, 112]⟩)), .c (.v (.string ⟨#[102, 111, 114, 99, 101]⟩)), .c (.v (.string ⟨#[98, 97, 99, 107]⟩))]) ( .take (.o 20 (.iadr 1) [.t 18, .t 19]) <| .al (.l 21 20) EE)) <| .al (.o 18 (.bsl 1) [.c (.v (.string ⟨#[108, 97, 121]⟩)), .c (.v (.string ⟨#[108, 105, 102, 116]⟩)), .c (.v (.string ⟨#[102, 108, 105, 112]⟩)), .c (.v (.string ⟨#[102, 111, 114, 99, 101]⟩)), .c (.v (.string ⟨#[98, 97, 99, 107]⟩))]) ( .take (.o 20 (.iadr 1) [.t 18, .t 19]) <| .alt (.l 17 16) ( .al (.l 21 20) EE) <| .al (.l 21 20) ( .al (.l 17 16) EE)))) <| .cond (.t 22) ( .reg [.m 23 6, .f 24 0 5, .s (.store 1) [.t 24, .t 23]]) ( .skip))) <| .reg [.m 13 6, .o 14 (.bin .add 0) [.t 13, .k 1], .m 6 14]
def Bh : ACode := .seq (.seq (.reg [.m 33 7, .o 34 (.bin .leq 0) [.t 33, .k 4], .m 35 34, .mg 36 4 35 true, .g 37 (.len false) [.t 36] 35 true, .g 38 (.bin .gtr 0) [.t 37, .k 2] 35 true, .o 39 .pick [.t 35, .t 38, .kb false]]) <| .cond (.t 39) ( .skip) ( .exit 2)) <| .seq (.block 3 ( .seq (.draw ( .take (.m 42 4) <| .take (.o 43 (.iadr 1) [.t 42, .k 2]) <| .take (.m 45 7) <| .alt (.l 44 43) ( .al (.o 46 (.call 107 []) [.t 45]) ( .take (.o 47 (.bin .eql 1) [.t 44, .t 46]) <| .done)) <| .al (.o 46 (.call 107 []) [.t 45]) ( .al (.l 44 43) ( .take (.o 47 (.bin .eql 1) [.t 44, .t 46]) <| .done)))) <| .cond (.t 47) ( .reg [.m 48 7, .f 49 2 5, .s (.store 1) [.t 49, .t 48]]) ( .skip))) <| .reg [.m 40 7, .o 41 (.bin .add 0) [.t 40, .k 1], .m 7 41]
def Nc : ACode := .seq (.reg [.o 2 (.alloc dz) [], .o 3 .mv [.kb false]]) <| .seq (.reg [.m 8 0, .o 9 (.call 116 []) [.t 8, .c (.v (.int .u8 (32)))], .m 4 9]) <| .seq (.reg [.o 10 (.build dz [(0, 1)]) [.k (-1)], .o 5 (.alloc dz) [], .s (.store 3) [.t 5, .t 10]]) <| .seq (.seq (.reg [.o 6 .mv [.k 0]]) <| .block 0 ( .loop [(4, 1)] [0, 2, 4, 5, 6] CX)) <| .seq (.seq (.reg [.m 25 4, .n 26 25, .o 27 (.bin .gtr 0) [.t 26, .k 1]]) <| .cond (.t 27) ( .reg [.m 28 4, .o 29 (.iadr 1) [.t 28, .k 1], .l 30 29, .o 31 (.call 117 []) [.t 30], .f 32 1 5, .s (.store 1) [.t 32, .t 31]]) ( .skip)) <| .seq (.seq (.reg [.o 7 .mv [.k 1]]) <| .block 2 ( .loop [(4, 1)] [0, 2, 4, 5, 7] Bh)) <| .seq (.seq (.reg [.m 50 0, .o 51 (.bin .eql 1) [.t 50, .c (.v (.string ⟨#[]⟩))], .m 52 51, .g 53 (.load true 3) [.t 5] 52 false, .g 54 (.call 48 []) [.t 53] 52 false, .mg 55 0 52 false, .g 56 (.bin .neq 1) [.t 54, .t 55] 52 false, .o 57 .pick [.t 52, .kb true, .t 56]]) <| .cond (.t 57) ( .seq (.reg [.o 58 (.build dz []) [], .s (.store 3) [.t 2, .t 58], .o 3 .mv [.kb false]]) <| .ret) ( .skip)) <| .seq (.reg [.la 59 3 5, .s (.store 3) [.t 2, .t 59], .o 3 .mv [.kb true]]) <| .ret
theorem Ud : cFn Tryz.prog Nb 60 [.c 2 true 3, .t 3] Nc := ⟨Tryz.f56, _, Tryz.func56, rfl, by kernel_rfl, by kernel_rfl, by kernel_rfl, by kernel_rfl⟩
open Go.RowKit
def kAt (p : List UInt8) : Nat → Int
 | 0 => -1
 | i + 1 => if p = Cb i then (i : Int) else kAt p i
theorem kt (p : List UInt8) : kAt p 5 = KX p := by
 by_cases h0 : p = Cb 0
 ·subst h0; decide
 by_cases h1 : p = Cb 1
 ·subst h1; decide
 by_cases h2 : p = Cb 2
 ·subst h2; decide
 by_cases h3 : p = Cb 3
 ·subst h3; decide
 by_cases h4 : p = Cb 4
 ·subst h4; decide
 have e0 : ¬ p = Cb ((0 : Nat) : Int) := h0
 have e1 : ¬ p = Cb ((1 : Nat) : Int) := h1
 have e2 : ¬ p = Cb ((2 : Nat) : Int) := h2
 have e3 : ¬ p = Cb ((3 : Nat) : Int) := h3
 have e4 : ¬ p = Cb ((4 : Nat) : Int) := h4
 rw [kAt, if_neg e4, kAt, if_neg e3, kAt, if_neg e2, kAt, if_neg e1, kAt, if_neg e0, kAt]
 simp [KX, h0, h1, h2, h3, h4]
def wAt (p : List UInt8) : Nat → Int
 | 0 => 0
 | i + 1 => if p = N5 (i + 1) then ((i : Int) + 1) else wAt p i
theorem ku (p : List UInt8) : wAt p 4 = kC p := by
 by_cases h1 : p = N5 1
 ·subst h1; decide
 by_cases h2 : p = N5 2
 ·subst h2; decide
 by_cases h3 : p = N5 3
 ·subst h3; decide
 by_cases h4 : p = N5 4
 ·subst h4; decide
 have e1 : ¬ p = N5 (((0 : Nat) : Int) + 1) := h1
 have e2 : ¬ p = N5 (((1 : Nat) : Int) + 1) := h2
 have e3 : ¬ p = N5 (((2 : Nat) : Int) + 1) := h3
 have e4 : ¬ p = N5 (((3 : Nat) : Int) + 1) := h4
 rw [wAt, if_neg e4, wAt, if_neg e3, wAt, if_neg e2, wAt, if_neg e1, wAt]
 simp [kC, h1, h2, h3, h4]
abbrev rdE (s : List UInt8) (n : Nat) (t : Nat) (k : Nat) : ES := [(0, .v (tx s)), (2, .lp 0 0 0 0), (4, .ls 1 1 0 n), (5, .lp 0 2 0 0), (t, .v (.int .i64 (k : Int)))]
abbrev rdH (ps : List (List UInt8)) (a b c : Int) : AM := [some (.box [.v (.int .i64 0), .v (.int .i64 0), .v (.int .i64 0)]), some (.arr 1 (txs ps)), some (.box [.v (.int .i64 a), .v (.int .i64 b), .v (.int .i64 c)])]
set_option maxHeartbeats 8000000 in
theorem pW (s : List UInt8) (ps : List (List UInt8)) (h0 : 0 < ps.length) (Qc : AExit → ES → AM → Prop) (hq : Qc (.exit 0) (rdE s ps.length 6 5 ++ []) (rdH ps (KX (nth ps 0)) 0 0) ∨ True)
  (hend : ∀ E, get E 0 = .v (tx s) → get E 2 = .lp 0 0 0 0 → get E 4 = .ls 1 1 0 ps.length → get E 5 = .lp 0 2 0 0 → Qc (.exit 0) E (rdH ps (KX (nth ps 0)) 0 0)) :
  CH [(4, 1)] [0, 2, 4, 5, 6] (awp Tryz.prog mdT CX) Qc (rdE s ps.length 6 0) (rdH ps (-1) 0 0) := by
 refine AH (fun m E H => ∃ k : Nat, m = 5 - k ∧ k ≤ 5 ∧ E = rdE s ps.length 6 k ∧ H = rdH ps (kAt (nth ps 0) k) 0 0) 5 ⟨0, rfl, by omega, rfl, rfl⟩ ?_
 rintro J hJ m E H ⟨k, rfl, hk, rfl, rfl⟩
 have hg : ps[0] = nth ps 0 := by simp [nth, h0]
 by_cases h5 : k = 5
 ·subst h5
  rw [kt]
  simp [CX]
  exact hend _ rfl rfl rfl rfl
 have nx1 : nth ps 0 = Cb k → Cx J (5 - k) (rdE s ps.length 6 (k + 1)) (rdH ps k 0 0) := fun e => ⟨_, by omega, hJ _ _ _ ⟨k + 1, rfl, by omega, rfl, by rw [kAt, if_pos e]⟩⟩
 have nx2 : nth ps 0 ≠ Cb k → Cx J (5 - k) (rdE s ps.length 6 (k + 1)) (rdH ps (kAt (nth ps 0) k) 0 0) := fun e => ⟨_, by omega, hJ _ _ _ ⟨k + 1, rfl, by omega, rfl, by rw [kAt, if_neg e]⟩⟩
 generalize kAt (nth ps 0) k = q at *
 generalize nth ps 0 = x at *
 have : k = 0 ∨ k = 1 ∨ k = 2 ∨ k = 3 ∨ k = 4 := by omega
 by_cases e : x = Cb (k : Int)
 ·have nx := nx1 e
  clear nx1 nx2 hend hq
  rcases this with rfl | rfl | rfl | rfl | rfl <;>
  ·simp [Cb] at e nx
   simp [CX, h0, hg, e]
   (repeat' first | exact nx | apply And.intro)
 ·have nx := nx2 e
  clear nx1 nx2 hend hq
  rcases this with rfl | rfl | rfl | rfl | rfl <;>
  ·simp [Cb] at e nx
   simp [CX, h0, hg, e]
   (repeat' first | exact nx | apply And.intro)
set_option maxHeartbeats 8000000 in
theorem nY (s : List UInt8) (ps : List (List UInt8)) (a b : Int) (hp : ps.length < 2 ^ 40) (Qc : AExit → ES → AM → Prop)
  (hend : ∀ E, get E 0 = .v (tx s) → get E 2 = .lp 0 0 0 0 → get E 5 = .lp 0 2 0 0 → Qc (.exit 2) E (rdH ps a b (if 2 < ps.length then kC (nth ps 2) else 0))) :
  CH [(4, 1)] [0, 2, 4, 5, 7] (awp Tryz.prog mdT Bh) Qc (rdE s ps.length 7 1) (rdH ps a b 0) := by
 by_cases h2 : 2 < ps.length
 case neg =>
  have h2' : ¬ (2 : Int) < (ps.length : Int) := by omega
  refine AH (fun m E H => m = 0 ∧ E = rdE s ps.length 7 1 ∧ H = rdH ps a b 0) 0 ⟨rfl, rfl, rfl⟩ ?_
  rintro J hJ m E H ⟨rfl, rfl, rfl⟩
  simp only [if_neg h2] at hend
  simp [Bh, h2']
  exact hend _ rfl rfl rfl
 have h2' : (2 : Int) < (ps.length : Int) := by omega
 rw [if_pos h2] at hend
 refine AH (fun m E H => ∃ k : Nat, m = 4 - k ∧ k ≤ 4 ∧ E = rdE s ps.length 7 (k + 1) ∧ H = rdH ps a b (wAt (nth ps 2) k)) 4 ⟨0, rfl, by omega, rfl, rfl⟩ ?_
 rintro J hJ m E H ⟨k, rfl, hk, rfl, rfl⟩
 have hg : ps[2] = nth ps 2 := by simp [nth, h2]
 by_cases h5 : k = 4
 ·subst h5
  rw [ku]
  simp [Bh]
  exact hend _ rfl rfl rfl
 have le := ML ((k : Int) + 1)
 have nx1 : nth ps 2 = N5 ((k : Int) + 1) → Cx J (4 - k) (rdE s ps.length 7 (k + 2)) (rdH ps a b ((k : Int) + 1)) := fun e => ⟨_, by omega, hJ _ _ _ ⟨k + 1, rfl, by omega, rfl, by rw [wAt, if_pos e]⟩⟩
 have nx2 : nth ps 2 ≠ N5 ((k : Int) + 1) → Cx J (4 - k) (rdE s ps.length 7 (k + 2)) (rdH ps a b (wAt (nth ps 2) k)) := fun e => ⟨_, by omega, hJ _ _ _ ⟨k + 1, rfl, by omega, rfl, by rw [wAt, if_neg e]⟩⟩
 have e2 : ((k + 2 : Nat) : Int) = (k : Int) + 1 + 1 := by omega
 simp only [rdE, e2] at nx1 nx2
 have hk4 : (k : Int) + 1 ≤ 4 := by omega
 generalize wAt (nth ps 2) k = q at *
 generalize nth ps 2 = x at *
 generalize hlt : N5 ((k : Int) + 1) = y at *
 by_cases e : x = y
 ·have nx := nx1 e
  simp [Bh, h2, h2', hg, hk4]
  (repeat' first | omega | apply And.intro) <;>
  ·refine AA le ?_
   simp [e, h2, hg, nx]
   try omega
 ·have nx := nx2 e
  simp [Bh, h2, h2', hg, hk4]
  (repeat' first | omega | apply And.intro) <;>
  ·refine AA le ?_
   simp [e, h2, hg, nx]
   try omega
def EU : ACode := .seq (.seq (.reg [.m 50 0, .o 51 (.bin .eql 1) [.t 50, .c (.v (.string ⟨#[]⟩))], .m 52 51, .g 53 (.load true 3) [.t 5] 52 false, .g 54 (.call 48 []) [.t 53] 52 false, .mg 55 0 52 false, .g 56 (.bin .neq 1) [.t 54, .t 55] 52 false, .o 57 .pick [.t 52, .kb true, .t 56]]) <| .cond (.t 57) ( .seq (.reg [.o 58 (.build dz []) [], .s (.store 3) [.t 2, .t 58], .o 3 .mv [.kb false]]) <| .ret) ( .skip)) <| .seq (.reg [.la 59 3 5, .s (.store 3) [.t 2, .t 59], .o 3 .mv [.kb true]]) <| .ret
def Gp (d : Int × Int × Int) (b : Bool) : AV := .tup [Ag d, .v (.bool b)]
set_option maxHeartbeats 8000000 in
theorem Ue (s : List UInt8) (hs : s.length < 2 ^ 30) : SoundAt Tryz.prog Nb [.v (tx s)] (Gp (Cc s) (Bo s)) [.bot] := by
 have cu := YX s 32 hs
 have hlen := ZY 32 s
 obtain ⟨p, qs, hps⟩ := Mk 32 s
 have h0 : 0 < (DW 32 s).length := by rw [hps]; simp
 have dt := I0 (TX s)
 have dx : TX s = (KX (nth (DW 32 s) 0), if 1 < (DW 32 s).length then bq (nth (DW 32 s) 1) else 0, if 2 < (DW 32 s).length then kC (nth (DW 32 s) 2) else 0) := rfl
 have rb : Bo s = (decide (s ≠ []) && decide (Az (TX s) = s)) := rfl
 have rdd : Cc s = if Bo s then TX s else (0, 0, 0) := rfl
 have l1 := Ub (nth (DW 32 s) 1) (by have := Z6 32 s 1; omega)
 refine AJ (md := mdT) (ms := [false]) Ud (by simp) ?_
 simp [Nc]
 refine AA cu ?_
 generalize DW 32 s = ps at *
 simp
 refine pW s ps h0 _ (.inr trivial) ?_
 intro E e0 e2 e4 e5
 have tail : ∀ (E : ES) (b : Int), (b = if 1 < ps.length then bq (nth ps 1) else 0) → get E 0 = .v (tx s) → get E 2 = .lp 0 0 0 0 → get E 5 = .lp 0 2 0 0 →
   awp Tryz.prog mdT EU (Fin [RV.c 2 true 3, RV.t 3] 60 1 [false] (Gp (Cc s) (Bo s)) [AV.bot]) E (rdH ps (KX (nth ps 0)) b (if 2 < ps.length then kC (nth ps 2) else 0)) := by
  intro E b hb e0 e2 e5
  rw [← hb] at dx
  generalize (if 2 < ps.length then kC (nth ps 2) else 0) = c at *
  generalize KX (nth ps 0) = a at *
  rw [dx] at dt rb rdd
  simp only [Ag] at dt
  generalize Az (a, b, c) = t at *
  by_cases hs0 : s = []
  ·have rb' : Bo s = false := by rw [rb]; simp [hs0]
   rw [rdd, rb']
   subst hs0
   simp [EU, e0, e2, e5, Gp, Ag]
  ·by_cases ht : t = s
   ·have rb' : Bo s = true := by rw [rb]; simp [hs0, ht]
    rw [rdd, rb']
    simp [EU, e0, e2, e5, hs0]
    refine AA dt ?_
    simp [ht, e0, e2, e5, Gp, Ag]
   ·have rb' : Bo s = false := by rw [rb]; simp [ht]
    rw [rdd, rb']
    simp [EU, e0, e2, e5, hs0]
    refine AA dt ?_
    simp [ht, e0, e2, e5, Gp, Ag]
 by_cases h1 : 1 < ps.length
 ·have h1' : (1 : Int) < (ps.length : Int) := by omega
  have hg1 : ps[1] = nth ps 1 := by simp [nth, h1]
  rw [if_pos h1] at tail
  simp [e0, e2, e4, e5, h1, h1', hg1]
  refine AA l1 ?_
  simp [e0, e2, e4, e5]
  refine nY s ps _ _ (by omega) _ ?_
  intro E' f0 f2 f5
  simp only [TR, if_true, Ro]
  exact tail E' _ rfl f0 f2 f5
 ·have h1' : ¬ (1 : Int) < (ps.length : Int) := by omega
  rw [if_neg h1] at tail
  simp [e0, e2, e4, e5, h1, h1']
  refine nY s ps _ _ (by omega) _ ?_
  intro E' f0 f2 f5
  simp only [TR, if_true, Ro]
  exact tail E' _ rfl f0 f2 f5
theorem VZ (s : List UInt8) (hs : s.length < 2 ^ 30) : SoundAt Tryz.prog 114 [.v (tx s)] (.tup [.v (.int .i64 (TY s)), .bot]) [.bot] := by
 refine Z7 (xs := [tx s]) fun w S forb hg => ?_
 have tup : ∀ (w' : World) (n : Int) (u : Value), R (WP w' [] forb) (.tup [.v (.int .i64 n), .bot]) [] (.tuple #[.int .i64 n, u]) := by
  intro w' n u
  rw [R]
  refine ⟨[_, _], rfl, ?_⟩
  rw [RL]; refine ⟨[], [], _, _, rfl, rfl, by rw [R]; exact ⟨rfl, rfl⟩, ?_⟩
  rw [RL]; exact ⟨[], [], _, _, rfl, rfl, by rw [R], by rw [RL]; exact ⟨rfl, rfl⟩⟩
 rcases h : Go.Lib.atoiAll s with v | _ | _
 ·
  have e : TY s = v := by simp [TY, h]
  rw [e]
  refine (Tryz.strconv_Atoi_ok ⟨s.toArray⟩ (by simp; omega) v h w).mono ?_
  rintro e w' ⟨rfl, hw⟩
  refine ⟨_, [], rfl, tup _ _ _, by simp, by simp, ?_⟩
  rcases hw with rfl | ⟨t, rfl⟩
  ·exact Kept.refl _ _ _
  ·exact EH _ (Go.Lib.bytesWorld_below _ _ _)
 ·
  have e : TY s = 0 := by simp [TY, h]
  rw [e]
  obtain ⟨ev, h1, h2⟩ := hg.cell (g := 2) (p := jH) (by simp [gps])
  refine (Any.strconv_Atoi_syntax Tryz.laysC172 ⟨s.toArray⟩ (by simp; omega) h ev w h1 h2).mono ?_
  rintro e w' ⟨N, rfl, _, _, hb⟩
  exact ⟨_, [], rfl, tup _ _ _, by simp, by simp, EH _ hb⟩
 ·
  have e : TY s = Go.Lib.atoiSat s := by simp [TY, h]
  rw [e]
  obtain ⟨ev, h1, h2⟩ := hg.cell (g := 3) (p := jH) (by simp [gps])
  refine (Tryz.strconv_Atoi_range ⟨s.toArray⟩ (by simp; omega) h ev w h1 h2).mono ?_
  rintro e w' ⟨N, rfl, _, _, hb⟩
  exact ⟨_, [], rfl, tup _ _ _, by simp, by simp, EH _ hb⟩
def fW (x : List UInt8) : List (List UInt8) → Nat → Int
 | [], _ => -1
 | p :: ps, i => if x = p then i else fW x ps (i + 1)
theorem en {ls : List (List UInt8)} {x : List UInt8} {k : Nat} (h : k < ls.length) : fW x (ls.drop k) k = if x = ls[k] then (k : Int) else fW x (ls.drop (k + 1)) (k + 1) := by
 rw [List.drop_eq_getElem_cons h, fW]
theorem jC {ls : List (List UInt8)} {k : Nat} (h : k < ls.length) : att ls (k : Int) = ls[k] := by simp [att, h]
theorem Uf (ls : List (List UInt8)) (x : List UInt8) (hl : ls.length < 2 ^ 30) : SoundAt Tryz.prog Dt [.sl 1 1 (txs ls), .v (tx x)] (.v (.int .i64 (fW x ls 0))) [.bot, .bot] := by
 refine AJ (md := mdT) (ms := [false, false]) H4 (by simp) ?_
 simp [Du]
 refine AH (fun m E H => ∃ k : Nat, m = ls.length - k ∧ k ≤ ls.length ∧ fW x (ls.drop k) k = fW x ls 0 ∧ H = [] ∧ E = [(0, .sl 1 1 (txs ls)), (1, .v (tx x)), (7, .v (.int .i64 ls.length)), (8, .v (.int .i64 (k : Int)))]) ls.length ⟨0, by simp⟩ ?_
 rintro J hJ m E H ⟨k, rfl, hk, hd, rfl, rfl⟩
 by_cases h : k < ls.length
 ·rw [en h] at hd
  by_cases hx : x = ls[k]
  ·rw [if_pos hx] at hd
   rw [← hd]
   simp [Ay, h, jC h, ← hx]
  ·rw [if_neg hx] at hd
   have nx := hJ (ls.length - (k + 1)) [(0, .sl 1 1 (txs ls)), (1, .v (tx x)), (7, .v (.int .i64 ls.length)), (8, .v (.int .i64 ((k : Int) + 1)))] [] ⟨k + 1, rfl, by omega, hd, rfl, by simp⟩
   simp [Ay, h, jC h, hx]
   exact ⟨⟨by omega, by omega⟩, _, by omega, nx⟩
 ·have hk' : k = ls.length := by omega
  subst hk'
  rw [List.drop_length] at hd
  rw [← hd]
  simp [Ay, fW]
def EV : ACode := .seq (.seq (.reg [.la 38 3 5, .o 39 (.call 20 []) [.t 38], .m 40 0, .o 41 (.bin .neq 1) [.t 39, .t 40]]) <| .cond (.t 41) ( .seq (.reg [.o 42 (.build dz []) [], .s (.store 3) [.t 2, .t 42], .o 3 .mv [.kb false]]) <| .ret) ( .skip)) <| .seq (.reg [.la 43 3 5, .s (.store 3) [.t 2, .t 43], .o 3 .mv [.kb true]]) <| .ret
def EW : ACode := .seq (.seq (.reg [.m 29 4, .n 30 29, .o 31 (.bin .gtr 0) [.t 30, .k 2]]) <| .cond (.t 31) ( .reg [.m 32 4, .o 33 (.iadr 1) [.t 32, .k 2], .l 34 33, .o 35 (.call 115 []) [.c (.v (.string ⟨#[35, 101, 110, 119, 115]⟩)), .t 34], .o 36 (.mnx false) [.k 0, .t 35], .f 37 2 5, .s (.store 1) [.t 37, .t 36]]) ( .skip)) <| EV
def EX : ACode := .seq (.seq (.reg [.f 14 0 5, .l 15 14, .o 16 (.bin .lss 0) [.t 15, .k 0]]) <| .cond (.t 16) ( .seq (.reg [.o 17 (.build dz []) [], .s (.store 3) [.t 2, .t 17], .o 3 .mv [.kb false]]) <| .ret) ( .skip)) <| .seq (.seq (.reg [.m 18 4, .n 19 18, .o 20 (.bin .gtr 0) [.t 19, .k 1]]) <| .cond (.t 20) ( .reg [.m 22 4, .o 23 (.iadr 1) [.t 22, .k 1], .l 24 23, .o 25 (.call 114 []) [.t 24], .m 21 25, .e 26 0 21, .e 27 1 21, .f 28 1 5, .s (.store 1) [.t 28, .t 26]]) ( .skip)) <| EW
theorem qB : F5 = EX := rfl
abbrev jD : List (List UInt8) := [[108, 97, 121], [108, 105, 102, 116], [102, 108, 105, 112], [102, 111, 114, 99, 101], [98, 97, 99, 107]]
abbrev gw : List UInt8 := [35, 101, 110, 119, 115]
theorem gx (x : List UInt8) : fW x jD 0 = KX x := by
 simp only [fW, KX, Cb]
 simp
def ZZ (s : List UInt8) : Int × Int × Int := let ps := DW 32 s; (KX (nth ps 0), if 1 < ps.length then TY (nth ps 1) else 0, if 2 < ps.length then max 0 (Go.Lib.index gw (nth ps 2)) else 0)
theorem kv : ∀ k : _root_.Fin 5, ∀ s : _root_.Fin 100, ∀ w : _root_.Fin 5, (if Bq ((k.val : Int), (s.val : Int), (w.val : Int)) then decide (ZZ (Az ((k.val : Int), (s.val : Int), (w.val : Int))) = ((k.val : Int), (s.val : Int), (w.val : Int))) else true) = true := by decide +kernel
theorem gy {d : Int × Int × Int} (h : Bq d = true) : ZZ (Az d) = d := by
 obtain ⟨k, s, w⟩ := d
 obtain ⟨k', s', w', rfl, rfl, rfl⟩ := Pb h
 have := kv k' s' w'
 rw [if_pos h] at this
 simpa using this
theorem aU (s : List UInt8) : (decide (Az (ZZ s) = s) && decide (s ≠ [])) = Bo s ∧ (Bo s = true → ZZ s = Cc s) := gP fun e he hs => by rw [hs]; exact gy he
theorem kw {s : List UInt8} (h : KX (nth (DW 32 s) 0) < 0) : Bo s = false := by
 cases hr : Bo s with
 | false => rfl
 | true =>
   obtain ⟨h1, h2⟩ := Pc hr
   have h3 := (aU s).2 hr
   have h4 : (ZZ s).1 = KX (nth (DW 32 s) 0) := rfl
   rw [h3] at h4
   obtain ⟨k', s', w', e1, e2, e3⟩ := Pb (k := (Cc s).1) (s := (Cc s).2.1) (w := (Cc s).2.2) h2
   omega
theorem gz {s : List UInt8} (h : ¬ KX (nth (DW 32 s) 0) < 0) : s ≠ [] := by
 rintro rfl
 exact h (by decide)
set_option maxHeartbeats 8000000 in
theorem Al (s : List UInt8) (hs : s.length < 2 ^ 30) : SoundAt Tryz.prog NZ [.v (tx s)] (Gp (Cc s) (Bo s)) [.bot] := by
 have cu := Ua s 32 hs
 have hlen := ZY 32 s
 obtain ⟨p, qs, hps⟩ := Mk 32 s
 have h0 : 0 < (DW 32 s).length := by rw [hps]; simp
 have dt := F4 (ZZ s)
 have dx : ZZ s = (KX (nth (DW 32 s) 0), if 1 < (DW 32 s).length then TY (nth (DW 32 s) 1) else 0, if 2 < (DW 32 s).length then max 0 (Go.Lib.index gw (nth (DW 32 s) 2)) else 0) := rfl
 have at1 := VZ (nth (DW 32 s) 1) (by have := Z6 32 s 1; omega)
 have ix2 := UZ gw (nth (DW 32 s) 2) (by simp)
 have id0 := Uf jD (nth (DW 32 s) 0) (by simp)
 rw [gx] at id0
 obtain ⟨r1, r2⟩ := aU s
 have kn := @kw s
 have kn0 := @gz s
 have rdd : Cc s = if Bo s then TX s else (0, 0, 0) := rfl
 refine AJ (md := mdT) (ms := [false]) Uc (by simp) ?_
 have T0 : ∀ E : ES, get E 0 = .v (tx s) → get E 2 = .lp 0 0 0 0 → get E 4 = .ls 1 1 0 (DW 32 s).length → get E 5 = .lp 0 2 0 0 →
   awp Tryz.prog mdT F5 (Fin [RV.c 2 true 3, RV.t 3] 44 1 [false] (Gp (Cc s) (Bo s)) [AV.bot]) E (rdH (DW 32 s) (KX (nth (DW 32 s) 0)) 0 0) := by
  intro E e0 e2 e4 e5
  rw [qB]
  generalize DW 32 s = ps at *
  clear id0 cu
  by_cases hk : KX (nth ps 0) < 0
  ·have rb' := kn hk
   rw [rdd, rb']
   simp [EX, e0, e2, e4, e5, hk, Gp, Ag]
  have hne := kn0 hk
  rw [decide_eq_true hne, Bool.and_true] at r1
  have fin : ∀ (E : ES) (b c : Int), (b = if 1 < ps.length then TY (nth ps 1) else 0) → (c = if 2 < ps.length then max 0 (Go.Lib.index gw (nth ps 2)) else 0) → get E 0 = .v (tx s) → get E 2 = .lp 0 0 0 0 → get E 5 = .lp 0 2 0 0 →
    awp Tryz.prog mdT EV (Fin [RV.c 2 true 3, RV.t 3] 44 1 [false] (Gp (Cc s) (Bo s)) [AV.bot]) E (rdH ps (KX (nth ps 0)) b c) := by
   intro E b c hb hc e0 e2 e5
   rw [← hb, ← hc] at dx
   generalize KX (nth ps 0) = a at *
   rw [dx] at dt r1 r2
   simp only [Ag] at dt
   generalize Az (a, b, c) = t at *
   by_cases ht : t = s
   ·have rb' : Bo s = true := by rw [← r1]; simp [ht]
    rw [← r2 rb', rb']
    simp [EV, e0, e2, e5]
    refine AA dt ?_
    simp [ht, e0, e2, e5, Gp, Ag]
   ·have rb' : Bo s = false := by rw [← r1]; simp [ht]
    rw [rdd, rb']
    simp [EV, e0, e2, e5]
    refine AA dt ?_
    simp [ht, e0, e2, e5, Gp, Ag]
  have mid : ∀ (E : ES) (b : Int), (b = if 1 < ps.length then TY (nth ps 1) else 0) → get E 0 = .v (tx s) → get E 2 = .lp 0 0 0 0 → get E 4 = .ls 1 1 0 ps.length → get E 5 = .lp 0 2 0 0 →
    awp Tryz.prog mdT EW (Fin [RV.c 2 true 3, RV.t 3] 44 1 [false] (Gp (Cc s) (Bo s)) [AV.bot]) E (rdH ps (KX (nth ps 0)) b 0) := by
   intro E b hb e0 e2 e4 e5
   by_cases h2 : 2 < ps.length
   ·have h2' : (2 : Int) < (ps.length : Int) := by omega
    have hg2 : ps[2] = nth ps 2 := by simp [nth, h2]
    rw [if_pos h2] at fin
    simp [EW, e0, e2, e4, e5, h2, h2', hg2]
    refine AA ix2 ?_
    simp [e0, e2, e4, e5]
    refine fin _ _ _ hb ?_ ?_ ?_ ?_
    ·split <;> omega
    all_goals simp [get, e0, e2, e5]
   ·have h2' : ¬ (2 : Int) < (ps.length : Int) := by omega
    rw [if_neg h2] at fin
    simp [EW, e0, e2, e4, e5, h2, h2']
    refine fin _ _ _ hb rfl ?_ ?_ ?_ <;> simp [get, e0, e2, e5]
  by_cases h1 : 1 < ps.length
  ·have h1' : (1 : Int) < (ps.length : Int) := by omega
   have hg1 : ps[1] = nth ps 1 := by simp [nth, h1]
   rw [if_pos h1] at mid
   simp [EX, e0, e2, e4, e5, hk, h1, h1', hg1]
   refine AA at1 ?_
   simp [e0, e2, e4, e5]
   refine mid _ _ rfl ?_ ?_ ?_ ?_ <;> simp [get, e0, e2, e4, e5]
  ·have h1' : ¬ (1 : Int) < (ps.length : Int) := by omega
   rw [if_neg h1] at mid
   simp [EX, e0, e2, e4, e5, hk, h1, h1']
   refine mid _ _ rfl ?_ ?_ ?_ ?_ <;> simp [get, e0, e2, e4, e5]
 simp [Na]
 refine AA cu ?_
 generalize DW 32 s = ps at *
 have hg0 : ps[0] = nth ps 0 := by simp [nth, h0]
 simp [h0, hg0]
 (repeat' first | omega | apply And.intro) <;>
 ·refine AA id0 ?_
  simp [txs]
  exact T0 _ rfl rfl rfl rfl
@[simp] abbrev K7 : Nat := 129
def Gq : ACode := .seq (.reg [.o 2 .box [.t 0], .o 3 .box [.t 1], .o 4 .mv [.c (.v (.string ⟨#[]⟩))]]) <| .seq (.seq (.reg [.la 5 3 2, .l 6 3, .o 7 (.call 102 []) [.t 5, .t 6], .o 8 (.un .not) [.t 7]]) <| .cond (.t 8) ( .seq (.reg [.o 4 .mv [.c (.v (.string ⟨#[]⟩))]]) <| .ret) ( .skip)) <| .seq (.reg [.la 9 3 2, .o 10 (.mkfn 182) [.t 3], .o 11 (.call 180 []) [.t 9, .t 10], .m 4 11]) <| .ret
theorem Re : cFn Tryz.prog K7 12 [.t 4] Gq := ⟨Tryz.f129, _, Tryz.func129, rfl, by kernel_rfl, by kernel_rfl, by kernel_rfl, by kernel_rfl⟩
@[simp] abbrev PB : Nat := 182
def FE : ACode := .seq (.reg [.o 3 .mv [.c (.v (.int .u8 (0)))]]) <| .seq (.seq (.reg [.l 4 1, .m 5 0, .o 6 (.iadr 1) [.t 4, .t 5], .l 7 6, .o 8 (.bin .lss 0) [.t 7, .k 0]]) <| .cond (.t 8) ( .seq (.reg [.o 3 .mv [.c (.v (.int .u8 (46)))]]) <| .ret) ( .skip)) <| .seq (.reg [.l 9 1, .m 10 0, .o 11 (.iadr 1) [.t 9, .t 10], .l 12 11, .o 13 (.conv .u8) [.t 12], .o 14 (.bin .add 0) [.c (.v (.int .u8 (48))), .t 13], .m 3 14]) <| .ret
theorem PC : cFn Tryz.prog PB 15 [.t 3] FE := ⟨Tryz.f182, _, Tryz.func182, rfl, by kernel_rfl, by kernel_rfl, by kernel_rfl, by kernel_rfl⟩
@[simp] abbrev Da : Nat := 180
def Ac : ACode := .seq (.reg [.o 22 (.bin .lss 0) [.t 21, .t 20]]) <| .seq (.cond (.t 22) ( .skip) ( .exit 2)) <| .seq (.block 3 ( .seq (.reg [.m 23 21, .m 8 23]) <| .reg [.m 24 7, .m 25 8, .m 26 1, .m 27 6, .f 28 0 2, .l 29 28, .o 30 (.bin .mul 0) [.t 27, .t 29], .m 31 8, .o 32 (.bin .add 0) [.t 30, .t 31], .o 33 (.callv []) [.t 26, .t 32], .o 34 (.iadr 1) [.t 24, .t 25], .s (.store 1) [.t 34, .t 33]])) <| .reg [.o 35 (.bin .add 0) [.t 21, .k 1], .m 21 35]
def A7 : ACode := .seq (.seq (.reg [.m 12 6, .o 13 (.bin .geq 0) [.t 12, .k 0]]) <| .cond (.t 13) ( .skip) ( .exit 0)) <| .seq (.block 1 ( .seq (.reg [.f 16 0 2, .l 17 16, .o 18 (.mksl 1 1 (.v (.int .u8 (0)))) [.t 17, .t 17], .m 7 18]) <| .seq (.seq (.reg [.m 19 7, .n 20 19, .o 21 .mv [.k 0]]) <| .block 2 ( .loop [(5, 1), (7, 1)] [1, 2, 5, 6, 7, 20, 21] Ac)) <| .reg [.m 36 5, .m 37 7, .o 38 .str [.t 37], .o 39 (.bsl 1) [.t 38], .o 40 (.app 1 16 true) [.t 36, .t 39], .m 5 40])) <| .reg [.m 14 6, .o 15 (.bin .sub 0) [.t 14, .k 1], .m 6 15]
def Db : ACode := .seq (.reg [.o 2 .box [.t 0], .o 4 .mv [.c (.v (.string ⟨#[]⟩))]]) <| .seq (.reg [.o 5 .mv [.c (.os 1 [])]]) <| .seq (.seq (.reg [.f 9 1 2, .l 10 9, .o 11 (.bin .sub 0) [.t 10, .k 1], .m 6 11]) <| .block 0 ( .loop [(5, 1)] [1, 2, 5, 6] A7)) <| .seq (.reg [.m 41 5, .o 42 (.call 226 []) [.t 41, .c (.v (.string ⟨#[47]⟩))], .m 4 42]) <| .ret
theorem GU : cFn Tryz.prog Da 43 [.t 4] Db := ⟨Tryz.f180, _, Tryz.func180, rfl, by kernel_rfl, by kernel_rfl, by kernel_rfl, by kernel_rfl⟩
theorem g0 (W : Nat) (cs : List Bool) (ds : List Int) {n : Nat} (h : 0 < n) : KZ W cs ds n ≠ [] := by
 intro e
 have := congrArg List.length e
 simp at this
 omega
theorem bf (W : Nat) (cs : List Bool) (ds : List Int) {n : Nat} (h : 0 < n) : I9 47 (KZ W cs ds (n + 1)) = Up W cs ds n ++ 47 :: I9 47 (KZ W cs ds n) := by
 rw [KZ, Q7 47 _ (g0 W cs ds h)]
theorem Za (W : Nat) (cs : List Bool) (ds : List Int) : I9 47 (KZ W cs ds 1) = Up W cs ds 0 := rfl
theorem aV {W : Nat} (cs : List Bool) (ds : List Int) : ∀ n : Nat, (I9 47 (KZ W cs ds n)).length ≤ n * (W + 1)
 | 0 => by simp [KZ, I9]
 | 1 => by rw [Za]; simp
 | n + 2 => by
   rw [bf W cs ds (by omega)]
   have := aV cs ds (n + 1) (W := W)
   have e : (n + 2) * (W + 1) = (n + 1) * (W + 1) + (W + 1) := by rw [show n + 2 = n + 1 + 1 by omega, Nat.succ_mul]
   simp
   omega
def d1 (c : UInt8) : Int := bq [c]
def full {α : Type} (d : α) (f : UInt8 → α) (W n : Nat) (rest : List UInt8) : List α := List.replicate (n * W) d ++ rest.map f
def part {α : Type} (d : α) (f : UInt8 → α) (W n x : Nat) (row rest : List UInt8) : List α := List.replicate (n * W) d ++ ((row.take x).map f ++ (List.replicate (W - x) d ++ rest.map f))
theorem YY {α : Type} (d : α) (f : UInt8 → α) (W n : Nat) (row rest : List UInt8) : part d f W n 0 row rest = full d f W (n + 1) rest := by
 unfold part full
 rw [Nat.succ_mul, ← List.replicate_append_replicate, List.append_assoc]
 rfl
theorem aW {α : Type} (d : α) (f : UInt8 → α) (W n : Nat) (row rest : List UInt8) (h : row.length = W) : part d f W n W row rest = full d f W n (row ++ rest) := by
 unfold part full
 rw [List.take_of_length_le (by omega)]
 simp
theorem Ug {α : Type} (d : α) (f : UInt8 → α) (W n x : Nat) (row rest : List UInt8) (h : row.length = W) (hx : x ≤ W) : (part d f W n x row rest).length = n * W + W + rest.length := by
 unfold part
 simp
 omega
theorem aX {α : Type} (d : α) (f : UInt8 → α) (W n x : Nat) (row rest : List UInt8) (h : row.length = W) (hx : x < row.length) : (part d f W n x row rest).set (n * W + x) (f row[x]) = part d f W n (x + 1) row rest := by
 unfold part
 rw [List.set_append_right _ _ (by simp), List.length_replicate, show n * W + x - n * W = x by omega, List.set_append_right _ _ (by simp; omega)]
 have e : x - ((row.take x).map f).length = 0 := by simp; omega
 rw [e, show W - x = (W - (x + 1)) + 1 by omega, List.replicate_succ, List.take_succ_eq_append_getElem hx, List.map_append, List.append_assoc]
 rfl
def toI (c : UInt8) : Int := (c.toNat : Int)
theorem eo (xs : List Int) (i : Nat) (x : Int) : (u8s xs).set i (.v (.int .u8 x)) = u8s (xs.set i x) := by simp [u8s, List.map_set]
theorem ep (n : Nat) (x : Int) : List.replicate n (.v (.int .u8 x)) = u8s (List.replicate n x) := by simp [u8s]
end Go.Proofs.Dev
namespace Go.Proofs
open Go.Shelf
def Tryz.lays169_ren : Go.Shelf.Ren := ⟨fun | 169 => 47 | n => n, fun | 70 => 72 | 9 => 9 | 0 => 0 | 72 => 74 | 37 => 22 | 127 => 123 | 3 => 3 | 5 => 5 | n => n, fun | n => n⟩
theorem Tryz.lays169 : Go.Proofs.Lays.n169 Tryz.prog Tryz.lays169_ren := {
 mixed := by kernel_rfl
 f169 := Tryz.func47.trans (congrArg some (by kernel_rfl))
 t0 := Tryz.underlying0
 a0 := Tryz.isAgg0
 z0 := Tryz.sizeOf0
 v0 := Tryz.zeroValue0
 t3 := Tryz.underlying3
 a3 := Tryz.isAgg3
 z3 := Tryz.sizeOf3
 v3 := Tryz.zeroValue3
 t9 := Tryz.underlying9
 a9 := Tryz.isAgg9
 z9 := Tryz.sizeOf9
 v9 := Tryz.zeroValue9
 t37 := Tryz.underlying22
 a37 := Tryz.isAgg22
 z37 := Tryz.sizeOf22
 v37 := Tryz.zeroValue22
 t70 := Tryz.underlying72
 a70 := Tryz.isAgg72
 z70 := Tryz.sizeOf72
 v70 := Tryz.zeroValue72
 t72 := Tryz.underlying74
 a72 := Tryz.isAgg74
 z72 := Tryz.sizeOf74
 v72 := Tryz.zeroValue74
 t127 := Tryz.underlying123
 a127 := Tryz.isAgg123
 z127 := Tryz.sizeOf123
 v127 := Tryz.zeroValue123 }
theorem Tryz.Builder_Extra_169 : Builder.Extra Tryz.prog Tryz.lays169_ren := {
 sizeBuilder := by kernel_rfl
 liesBuilder := by kernel_rfl
 t5 := Tryz.underlying5
 a5 := Tryz.isAgg5
 z5 := Tryz.sizeOf5
 v5 := Tryz.zeroValue5
 infoByte := by kernel_rfl
 cellsByte := by kernel_rfl
 sizeByte := by kernel_rfl
 neB5 := by decide }
open Go.RowKit in
theorem Tryz.Builder_String_any (B b : Nat) (l : List UInt8) (w : World) (h : Lib.IsBuilder 74 5 B b (Lib.byteCells l) w) (hBw : B ≤ w.heap.size) :
  Calls Tryz.prog 47 #[.pointer (some ⟨b, 0, none⟩)] w fun e w' => e = .returned (.string ⟨l.toArray⟩) ∧ Below B w w' := Any.Builder_String_any Tryz.lays169 Tryz.Builder_Extra_169 B b l w h hBw
def Tryz.lays156_ren : Go.Shelf.Ren := ⟨fun | 156 => 226 | 165 => 257 | 166 => 46 | 169 => 47 | 240 => 104 | 241 => 278 | 276 => 158 | 277 => 287 | n => n, fun | 31 => 58 | 9 => 9 | 3 => 3 | 4 => 4 | 0 => 0 | 20 => 20 | 72 => 74 | 76 => 77 | 70 => 72 | 37 => 22 | 75 => 76 | 127 => 123 | 164 => 152 | 5 => 5 | 80 => 79 | n => n, fun | n => n⟩
theorem Tryz.lays156 : Go.Proofs.Lays.n156 Tryz.prog Tryz.lays156_ren := {
 mixed := by kernel_rfl
 f156 := Tryz.func226.trans (congrArg some (by kernel_rfl))
 f165 := Tryz.func257.trans (congrArg some (by kernel_rfl))
 f166 := Tryz.func46.trans (congrArg some (by kernel_rfl))
 f169 := Tryz.func47.trans (congrArg some (by kernel_rfl))
 f240 := Tryz.func104.trans (congrArg some (by kernel_rfl))
 f241 := Tryz.func278.trans (congrArg some (by kernel_rfl))
 f276 := Tryz.func158.trans (congrArg some (by kernel_rfl))
 f277 := Tryz.func287.trans (congrArg some (by kernel_rfl))
 t0 := Tryz.underlying0
 a0 := Tryz.isAgg0
 z0 := Tryz.sizeOf0
 v0 := Tryz.zeroValue0
 t3 := Tryz.underlying3
 a3 := Tryz.isAgg3
 z3 := Tryz.sizeOf3
 v3 := Tryz.zeroValue3
 t4 := Tryz.underlying4
 a4 := Tryz.isAgg4
 z4 := Tryz.sizeOf4
 v4 := Tryz.zeroValue4
 t9 := Tryz.underlying9
 a9 := Tryz.isAgg9
 z9 := Tryz.sizeOf9
 v9 := Tryz.zeroValue9
 t20 := Tryz.underlying20
 a20 := Tryz.isAgg20
 z20 := Tryz.sizeOf20
 v20 := Tryz.zeroValue20
 t31 := Tryz.underlying58
 a31 := Tryz.isAgg58
 z31 := Tryz.sizeOf58
 v31 := Tryz.zeroValue58
 t37 := Tryz.underlying22
 a37 := Tryz.isAgg22
 z37 := Tryz.sizeOf22
 v37 := Tryz.zeroValue22
 t70 := Tryz.underlying72
 a70 := Tryz.isAgg72
 z70 := Tryz.sizeOf72
 v70 := Tryz.zeroValue72
 t72 := Tryz.underlying74
 a72 := Tryz.isAgg74
 z72 := Tryz.sizeOf74
 v72 := Tryz.zeroValue74
 t75 := Tryz.underlying76
 a75 := Tryz.isAgg76
 z75 := Tryz.sizeOf76
 v75 := Tryz.zeroValue76
 t76 := Tryz.underlying77
 a76 := Tryz.isAgg77
 z76 := Tryz.sizeOf77
 v76 := Tryz.zeroValue77
 t127 := Tryz.underlying123
 a127 := Tryz.isAgg123
 z127 := Tryz.sizeOf123
 v127 := Tryz.zeroValue123
 t164 := Tryz.underlying152
 a164 := Tryz.isAgg152
 z164 := Tryz.sizeOf152
 v164 := Tryz.zeroValue152 }
theorem Tryz.Builder_Extra_156 : Builder.Extra Tryz.prog Tryz.lays156_ren := {
 sizeBuilder := by kernel_rfl
 liesBuilder := by kernel_rfl
 t5 := Tryz.underlying5
 a5 := Tryz.isAgg5
 z5 := Tryz.sizeOf5
 v5 := Tryz.zeroValue5
 infoByte := by kernel_rfl
 cellsByte := by kernel_rfl
 sizeByte := by kernel_rfl
 neB5 := by decide }
open Go.RowKit in
theorem Tryz.strings_Join_none (a : Option Addr) (c : Nat) (sep : ByteArray) (w : World) :
  Calls Tryz.prog 226 #[.slice a 0 c, .string sep] w fun e w' => e = .returned (.string ⟨#[]⟩) ∧ w' = w := Any.strings_Join_none Tryz.lays156 Tryz.Builder_Extra_156 a c sep w
open Go.RowKit in
theorem Tryz.strings_Join (bk o c : Nat) (xs : List ByteArray) (sep : ByteArray) (w : World) (hcells : ∀ (j : Nat) x, xs[j]? = some x → w.cell? ⟨bk, o + j, none⟩ = some (.string x)) (hbk : bk < w.heap.size) (hN : xs.length ≤ 140737488355328) (hcap : xs.length ≤ c) (hlen : (Lib.join (xs.map (·.data.toList)) sep.data.toList).length ≤ 140737488355328) :
  Calls Tryz.prog 226 #[.slice (some ⟨bk, o, none⟩) xs.length c, .string sep] w fun e w' => e = .returned (.string ⟨(Lib.join (xs.map (·.data.toList)) sep.data.toList).toArray⟩) ∧ Below w.heap.size w w' := Any.strings_Join Tryz.lays156 Tryz.Builder_Extra_156 bk o c xs sep w hcells hbk hN hcap hlen
end Go.Proofs
namespace Go.Proofs.Dev
open Go.RowKit
theorem eq (c : UInt8) : ∀ ls : List (List UInt8), Go.Lib.join ls [c] = I9 c ls
 | [] => rfl
 | [p] => by rw [Go.Lib.join_one]; rfl
 | p :: q :: ls => by
   have ih := eq c (q :: ls)
   rw [Go.Lib.join_cons] at ih ⊢
   rw [Q7 c p (by simp), ← ih]
   simp [Go.Lib.joinTail]
theorem nZ {C : Ctx} {a b : AV} {S : List Nat} {us : List Value} (h : RL C [a, b] S us) : ∃ S1 S2 u v, S = S1 ++ S2 ∧ us = [u, v] ∧ R C a S1 u ∧ R C b S2 v := by
 rw [RL] at h
 obtain ⟨S1, S2, u, us', rfl, rfl, h1, h2⟩ := h
 rw [RL] at h2
 obtain ⟨S3, S4, v, us2, rfl, rfl, h3, h4⟩ := h2
 rw [RL] at h4
 obtain ⟨rfl, rfl⟩ := h4
 exact ⟨S1, S3, u, v, by simp, rfl, h1, h3⟩
theorem YZ {C : Ctx} : ∀ {ls : List (List UInt8)} {S : List Nat} {us : List Value}, RL C (txs ls) S us → us = ls.map tx
 | [], S, us, h => by
   have h' : RL C [] S us := h
   rw [RL] at h'
   exact h'.2
 | x :: xs, S, us, h => by
   have h' : RL C (.v (tx x) :: txs xs) S us := h
   rw [RL] at h'
   obtain ⟨S1, S2, u, us', rfl, rfl, h1, h2⟩ := h'
   rw [R] at h1
   rw [YZ h2, h1.2]
   rfl
theorem Oi (ls : List (List UInt8)) (c : UInt8) (hn : ls.length ≤ 1000) (hl : (I9 c ls).length ≤ 1000) : SoundAt Tryz.prog 226 [.sl 1 1 (txs ls), .v (tx [c])] (.v (tx (I9 c ls))) [.bot, .bot] := by
 intro w forb us S hr hnd hlt hforb
 obtain ⟨S1, S2, u, v, rfl, rfl, h1, h2⟩ := nZ hr
 rw [R] at h2
 obtain ⟨rfl, rfl⟩ := h2
 rw [R] at h1
 obtain ⟨rfl, a, cap, rfl, hcap, h3⟩ := h1
 have fin : ∀ w', Kept w.heap.size [] w w' → ∃ v S', Ending.returned (Value.string ⟨(I9 c ls).toArray⟩) = .returned v ∧ RL (WP w' S' forb) (.v (tx (I9 c ls)) :: [.bot, .bot]) S' (v :: [.slice a (txs ls).length cap, tx [c]]) ∧ S'.Nodup ∧ (∀ x ∈ S', x < w'.heap.size ∧ (w.heap.size ≤ x ∨ x ∈ ([] ++ [] : List Nat))) ∧ Kept w.heap.size ([] ++ []) w w' := by
  intro w' hk
  refine ⟨_, [], rfl, ?_, by simp, by simp, hk⟩
  rw [RL]; refine ⟨[], [], _, _, rfl, rfl, by rw [R]; exact ⟨rfl, rfl⟩, ?_⟩
  rw [RL]; refine ⟨[], [], _, _, rfl, rfl, by rw [R], ?_⟩
  rw [RL]; exact ⟨[], [], _, _, rfl, rfl, by rw [R], by rw [RL]; exact ⟨rfl, rfl⟩⟩
 by_cases h0 : ls = []
 ·subst h0
  refine (Tryz.strings_Join_none a cap ⟨[c].toArray⟩ w).mono ?_
  rintro e w' ⟨rfl, rfl⟩
  exact fin _ (Kept.refl _ _ _)
 ·rcases h3 with h3 | ⟨b, p, us, rfl, hb, _, hc, _, hrl⟩
  ·exact absurd (by simpa using h3) h0
  rw [PY] at hrl
  have hus := YZ hrl
  subst hus
  have hx : (ls.map fun l => ByteArray.mk l.toArray).map (·.data.toList) = ls := by
   rw [List.map_map]
   conv => rhs; rw [← List.map_id ls]
   rfl
  have hjn : Go.Lib.join ((ls.map fun l => ByteArray.mk l.toArray).map (·.data.toList)) (ByteArray.mk [c].toArray).data.toList = I9 c ls := by rw [hx]; exact eq c ls
  have := Tryz.strings_Join b p cap (ls.map fun l => ByteArray.mk l.toArray) ⟨[c].toArray⟩ w (fun j x hj => by
   simp only [List.getElem?_map, Option.map_eq_some_iff] at hj
   obtain ⟨l, hl, rfl⟩ := hj
   exact hc j (tx l) (by simp [hl])) hb (by simp; omega) (by simp at hcap ⊢; exact hcap) (by rw [hjn]; omega)
  rw [hjn, List.length_map] at this
  simp only [Nm]
  refine this.mono ?_
  rintro e w' ⟨rfl, hbl⟩
  have := fin w' (EH _ hbl)
  simpa using this
theorem bg (ds : List Int) (k : Int) (h0 : 0 ≤ k) (h1 : k < ds.length) (h2 : -1 ≤ ati ds k) (h3 : ati ds k ≤ 6) :
  SoundAt Tryz.prog 182 [.v (.int .i64 k), .vp 1 [.sl 1 1 (AC ds)] 0] (.v (.int .u8 (if ati ds k < 0 then 46 else 48 + ati ds k))) [.bot, .bot] := by
 refine AJ (md := mdT) (ms := [false, false]) PC (by simp) ?_
 by_cases h : ati ds k < 0
 ·simp [FE, h0, h1, h]
 ·simp [FE, h0, h1, h]
  omega
abbrev rtE (ds : List Int) (k : Nat) (y : Int) : ES := [(1, .fn 182 [.vp 1 [.sl 1 1 (AC ds)] 0]), (2, .lp 0 0 0 0), (5, .ls 1 1 0 k), (6, .v (.int .i64 y))]
theorem jE (l : List UInt8) : (l.map toI).map (fun n => UInt8.ofNat n.toNat) = l := by
 rw [List.map_map]
 conv => rhs; rw [← List.map_id l]
 apply List.map_congr_left
 intro c _
 show UInt8.ofNat (toI c).toNat = c
 apply UInt8.toNat_inj.1
 have := c.toNat_lt
 simp [toI]
abbrev pX (W : Nat) (ds : List Int) (k : Nat) (y x : Int) : ES := [(1, .fn 182 [.vp 1 [.sl 1 1 (AC ds)] 0]), (2, .lp 0 0 0 0), (5, .ls 1 1 0 k), (6, .v (.int .i64 y)), (7, .ls 1 2 0 W), (20, .v (.int .i64 W)), (21, .v (.int .i64 x))]
set_option maxHeartbeats 2000000 in
theorem pY (W T : Nat) (cs : List Bool) (ds : List Int) (rs : List (List UInt8)) (y : Nat) (hW : W ≤ 6) (hT : T ≤ 6) (hy : y < T) (hl : cs.length = T * W) (hd : DV cs ds = true) (Qc : AExit → ES → AM → Prop)
  (hend : ∀ E, get E 1 = .fn 182 [.vp 1 [.sl 1 1 (AC ds)] 0] → get E 2 = .lp 0 0 0 0 → get E 5 = .ls 1 1 0 rs.length → get E 6 = .v (.int .i64 y) → get E 7 = .ls 1 2 0 W →
   Qc (.exit 2) E [some (.box [.v (.int .i64 W), .v (.int .i64 T), .sl 1 1 (AD cs)]), some (.arr 1 (txs rs)), some (.arr 1 (u8s ((Up W cs ds y).map toI)))]) :
  CH [(5, 1), (7, 1)] [1, 2, 5, 6, 7, 20, 21] (awp Tryz.prog mdT Ac) Qc (pX W ds rs.length y 0) [some (.box [.v (.int .i64 W), .v (.int .i64 T), .sl 1 1 (AD cs)]), some (.arr 1 (txs rs)), some (.arr 1 (List.replicate W (.v (.int .u8 0))))] := by
 rw [ep]
 refine AH (fun m E H => ∃ x : Nat, m = W - x ∧ x ≤ W ∧ E = pX W ds rs.length y x ∧ H = [some (.box [.v (.int .i64 W), .v (.int .i64 T), .sl 1 1 (AD cs)]), some (.arr 1 (txs rs)), some (.arr 1 (u8s (part 0 toI W 0 x (Up W cs ds y) [])))]) W ⟨0, by simp [YY, full]⟩ ?_
 rintro J hJ m E H ⟨x, rfl, hx, rfl, rfl⟩
 by_cases h : x < W
 ·have h' : (x : Int) < (W : Int) := by omega
  have hxr : x < (Up W cs ds y).length := by simp [h]
  have hc := dC (T := T) hy h
  have hdd : ds.length = cs.length := by simp only [DV, Bool.and_eq_true, decide_eq_true_eq] at hd; exact hd.1
  have hp : T * W ≤ 6 * 6 := Nat.mul_le_mul hT hW
  have e1 : (y : Int) * (W : Int) = ((y * W : Nat) : Int) := by simp
  have q0 : (0 : Int) ≤ (y : Int) * (W : Int) := by rw [e1]; omega
  have q1 : (y : Int) * (W : Int) ≤ 36 := by rw [e1]; omega
  have q2 : ((y : Int) * (W : Int) + (x : Int)) < (ds.length : Int) := by rw [e1]; omega
  have e2 : ((y : Int) * (W : Int) + (x : Int)) = ((y * W + x : Nat) : Int) := by rw [Int.natCast_add, e1]
  have hdg : MM cs ds ((y : Int) * (W : Int) + (x : Int)) = true := by
   simp only [DV, Bool.and_eq_true, decide_eq_true_eq, CI] at hd
   rw [e2]
   exact hd.2 (y * W + x) (by omega)
  have es : (if ati ds ((y : Int) * (W : Int) + (x : Int)) < 0 then (46 : Int) else 48 + ati ds ((y : Int) * (W : Int) + (x : Int))) = toI (Up W cs ds y)[x] := by
   have e3 : (Up W cs ds y)[x] = if atb cs ((y : Int) * (W : Int) + (x : Int)) then b8 (48 + ati ds ((y : Int) * (W : Int) + (x : Int))) else 46 := by
    rw [e2]; simp only [Up, List.getElem_map, List.getElem_range]; rfl
   rw [e3]
   unfold MM at hdg
   cases hb : atb cs ((y : Int) * (W : Int) + (x : Int)) with
   | true =>
     rw [hb] at hdg
     simp at hdg
     rw [if_neg (by omega), if_pos rfl, toI, gQ (by omega) (by omega)]
     omega
   | false =>
     rw [hb] at hdg
     simp at hdg
     rw [hdg]
     rfl
  have sg := bg ds ((y : Int) * (W : Int) + (x : Int)) (by omega) q2 (by
   unfold MM at hdg
   split at hdg <;> simp at hdg <;> omega) (by
   unfold MM at hdg
   split at hdg <;> simp at hdg <;> omega)
  rw [es] at sg
  have st := aX (0 : Int) toI W 0 x (Up W cs ds y) [] (by simp) hxr
  have l1 := Ug (0 : Int) toI W 0 x (Up W cs ds y) [] (by simp) hx
  simp only [Nat.zero_mul, Nat.zero_add, List.length_nil, Nat.add_zero] at st l1
  have nx := hJ (W - (x + 1)) (pX W ds rs.length y ((x : Int) + 1)) _ ⟨x + 1, rfl, h, by simp, rfl⟩
  rw [← st] at nx
  generalize part 0 toI W 0 x (Up W cs ds y) [] = X at *
  generalize toI (Up W cs ds y)[x] = z at *
  have hX : x < X.length := by omega
  have qf : cQ Tryz.prog 182 = true := by kernel_rfl
  simp [Ac, h', hX, qf, h]
  refine ⟨by omega, by omega, ?_⟩
  refine AA sg ?_
  simp [eo, hX, h]
  exact ⟨by omega, _, by omega, nx⟩
 ·have : x = W := by omega
  subst this
  rw [aW _ _ _ _ _ _ (by simp)]
  simp [Ac, full]
  apply hend <;> rfl
set_option maxHeartbeats 2000000 in
theorem Uh (W T : Nat) (cs : List Bool) (ds : List Int) (hr : A3 W T cs = true) (hg : DV cs ds = true) :
  SoundAt Tryz.prog Da [.agg [.v (.int .i64 W), .v (.int .i64 T), .sl 1 1 (AD cs)], .fn 182 [.vp 1 [.sl 1 1 (AC ds)] 0]] (.v (tx (I9 47 (KZ W cs ds T)))) [.bot, .bot] := by
 refine AJ (md := mdT) (ms := [false, false]) GU (by simp) ?_
 have hr' := hr
 simp only [A3, decide_eq_true_eq] at hr'
 obtain ⟨w1, w2, t1, t2, hl, _⟩ := hr'
 have hW6 : W ≤ 6 := by omega
 have hT6 : T ≤ 6 := by omega
 have hl' : cs.length = T * W := by
  have : (cs.length : Int) = ((T * W : Nat) : Int) := by rw [hl, Int.natCast_mul, Int.mul_comm]
  exact Int.ofNat.inj this
 have tot := aV cs ds T (W := W)
 have hp : T * (W + 1) ≤ 6 * 7 := Nat.mul_le_mul hT6 (by omega)
 have jn := Oi (KZ W cs ds T) 47 (by simp; omega) (by omega)
 simp [Db]
 refine ⟨by omega, ?_⟩
 refine AH (fun m E H => ∃ (n : Nat) (rs : List (List UInt8)), n = m ∧ n ≤ T ∧ rs ++ KZ W cs ds n = KZ W cs ds T ∧ E = rtE ds rs.length ((n : Int) - 1) ∧
  H = [some (.box [.v (.int .i64 W), .v (.int .i64 T), .sl 1 1 (AD cs)]), some (.arr 1 (txs rs))]) T ⟨T, [], by simp⟩ ?_
 rintro J hJ m E H ⟨n, rs, rfl, hn, ho, rfl, rfl⟩
 cases n with
 | zero =>
   have ho' : rs = KZ W cs ds T := by simpa [KZ] using ho
   subst ho'
   rw [JC]
   have tk : List.take T (txs (KZ W cs ds T)) = txs (KZ W cs ds T) := List.take_of_length_le (by simp)
   simp [A7]
   refine AA jn ?_
   simp [tk]
 | succ n =>
   have la : rs.length ≤ 6 := by have := congrArg List.length ho; rw [List.length_append, JC, JC] at this; omega
   have e1 : ((n + 1 : Nat) : Int) - 1 = (n : Int) := by omega
   have w0 : (0 : Int) ≤ (W : Int) := by omega
   rw [e1]
   have nx := hJ n (rtE ds (rs ++ [Up W cs ds n]).length ((n : Int) - 1)) _ ⟨n, rs ++ [Up W cs ds n], rfl, by omega, by rw [← ho, KZ]; simp, rfl, rfl⟩
   rw [Nn, Yw, List.length_append, List.length_singleton] at nx
   have body := pY W T cs ds rs n hW6 hT6 (by omega) hl' hg
   simp [A7, w0]
   refine ⟨by omega, ?_⟩
   refine body _ ?_
   intro E g1 g2 g5 g6 g7
   have tk : List.take W (u8s ((Up W cs ds n).map toI)) = u8s ((Up W cs ds n).map toI) := List.take_of_length_le (by simp)
   have hst := jE (Up W cs ds n)
   have hrw : W ≤ (Up W cs ds n).length := by simp
   generalize Up W cs ds n = row at *
   rw [List.map_map] at hst
   simp [g1, g2, g5, g6, g7, tk, hst, hrw, iD]
   exact ⟨by omega, by omega, _, by omega, nx⟩
theorem Rf (W T : Nat) (cs : List Bool) (ds : List Int) (hb : cs.length < 2 ^ 40) (hd : ds.length < 2 ^ 40) :
  SoundAt Tryz.prog K7 [.agg [.v (.int .i64 W), .v (.int .i64 T), .sl 1 1 (AD cs)], .sl 1 1 (AC ds)] (.v (tx (bI W T cs ds))) [.bot, .bot] := by
 have pv := JP W T cs ds hb hd
 refine AJ (md := mdT) (ms := [false, false]) Re (by simp) ?_
 by_cases hv : (A3 W T cs && DV cs ds) = true
 ·rw [bI, if_pos hv]
  rw [hv] at pv
  simp only [Bool.and_eq_true] at hv
  have rt := Uh W T cs ds hv.1 hv.2
  simp [Gq]
  refine AA pv ?_
  simp
  refine AA rt ?_
  simp
 ·have hv' : (A3 W T cs && DV cs ds) = false := by simpa using hv
  rw [bI, if_neg hv]
  rw [hv'] at pv
  simp [Gq]
  refine AA pv ?_
  simp
end Go.Proofs.Dev
