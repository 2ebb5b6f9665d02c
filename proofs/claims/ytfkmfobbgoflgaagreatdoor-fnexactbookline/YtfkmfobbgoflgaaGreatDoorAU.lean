/- Contracts of the functions of the program over slots and rows, each proved against the program itself; no condition beyond those that each theorem names. -/
import Derived.Test.YtfkmfobbgoflgaaGreatDoorAO
import Derived.Test.YtfkmfobbgoflgaaGreatDoorProg
import Derived.Test.YtfkmfobbgoflgaaGreatDoorAT
import Derived.Test.YtfkmfobbgoflgaaGreatDoorAR
import Derived.Test.YtfkmfobbgoflgaaGreatDoorAL
import Derived.Test.YtfkmfobbgoflgaaGreatDoorAQ
import Derived.Test.YtfkmfobbgoflgaaGreatDoorAH
set_option linter.unusedSimpArgs false
set_option linter.unusedVariables false
set_option maxRecDepth 100000
namespace Go.Proofs.Dev
@[simp] abbrev GK : Nat := 62
def GL : ACode := .seq (.reg [.o 1 .box [.t 0], .o 2 .mv [.kb false]]) <| .seq (.seq (.reg [.f 3 0 1, .l 4 3]) <| .block 0 ( .seq (.reg [.o 6 (.bin .eql 0) [.t 4, .k 0], .m 5 6]) <| .cond (.t 5) ( .seq (.reg [.o 2 .mv [.kb true]]) <| .ret) ( .seq (.seq (.reg [.o 8 (.bin .eql 0) [.t 4, .k 1], .m 7 8]) <| .cond (.t 7) ( .skip) ( .reg [.o 9 (.bin .eql 0) [.t 4, .k 2], .m 7 9])) <| .cond (.t 7) ( .seq (.reg [.f 10 2 1, .l 11 10, .o 12 (.bin .eql 0) [.t 11, .k 0], .m 2 12]) <| .ret) ( .seq (.seq (.reg [.o 14 (.bin .eql 0) [.t 4, .k 3], .m 13 14]) <| .cond (.t 13) ( .skip) ( .reg [.o 15 (.bin .eql 0) [.t 4, .k 4], .m 13 15])) <| .cond (.t 13) ( .seq (.reg [.f 16 1 1, .l 17 16, .o 18 (.bin .eql 0) [.t 17, .k 0], .m 19 18, .fg 20 2 1 19 true, .lg 21 20 19 true, .g 22 (.bin .eql 0) [.t 21, .k 0] 19 true, .o 23 .pick [.t 19, .t 22, .kb false], .m 2 23]) <| .ret) ( .skip))))) <| .seq (.reg [.o 2 .mv [.kb false]]) <| .ret
theorem KK : cFn Tryz.prog GK 24 [.t 2] GL := ⟨Tryz.f62, _, Tryz.func62, rfl, by kernel_rfl, by kernel_rfl, by kernel_rfl, by kernel_rfl⟩
@[simp] abbrev EV : Nat := 238
def Ao : ACode := .seq (.seq (.reg [.m 19 1, .o 20 (.bin .lss 0) [.t 19, .k 0], .m 21 20, .mg 22 6 21 false, .fg 23 0 2 21 false, .lg 24 23 21 false, .g 25 (.bin .sub 0) [.t 24, .k 1] 21 false, .g 26 (.call 63 []) [.t 22, .k 1, .t 25] 21 false, .g 27 (.un .not) [.t 26] 21 false, .o 28 .pick [.t 21, .kb true, .t 27], .m 29 28, .mg 30 7 29 false, .fg 31 1 2 29 false, .lg 32 31 29 false, .g 33 (.bin .sub 0) [.t 32, .k 1] 29 false, .g 34 (.call 63 []) [.t 30, .k 1, .t 33] 29 false, .g 35 (.un .not) [.t 34] 29 false, .o 36 .pick [.t 29, .kb true, .t 35]]) <| .cond (.t 36) ( .seq (.reg [.o 37 (.build [.v (.int .i64 (0)), .v (.int .i64 (0)), .v (.int .i64 (0)), .v (.int .i64 (0))] []) [], .s (.store 4) [.t 4, .t 37], .o 5 .mv [.kb false]]) <| .ret) ( .skip)) <| .seq (.reg [.m 38 7, .o 39 (.bin .sub 0) [.t 38, .k 1], .f 40 0 2, .l 41 40, .o 42 (.bin .mul 0) [.t 39, .t 41], .m 43 6, .o 44 (.bin .add 0) [.t 42, .t 43], .o 45 (.bin .sub 0) [.t 44, .k 1], .m 8 45]) <| .seq (.reg [.m 46 8, .m 47 8, .o 48 (.bin .add 0) [.t 47, .k 1], .m 49 8, .f 50 0 2, .l 51 50, .o 52 (.bin .add 0) [.t 49, .t 51], .m 53 8, .f 54 0 2, .l 55 54, .o 56 (.bin .add 0) [.t 53, .t 55], .o 57 (.bin .add 0) [.t 56, .k 1], .o 58 (.build [.v (.int .i64 (0)), .v (.int .i64 (0)), .v (.int .i64 (0)), .v (.int .i64 (0))] [(0, 1), (1, 1), (2, 1), (3, 1)]) [.t 46, .t 48, .t 52, .t 57], .s (.store 4) [.t 4, .t 58], .o 5 .mv [.kb true]]) <| .ret
def Co : ACode := .seq (.reg [.o 2 .box [.t 0], .o 4 (.alloc [.v (.int .i64 (0)), .v (.int .i64 (0)), .v (.int .i64 (0)), .v (.int .i64 (0))]) [], .o 5 .mv [.kb false]]) <| .seq (.draw ( .take (.m 9 1) <| .take (.f 10 0 2) <| .take (.m 14 1) <| .take (.f 15 0 2) <| .alt (.l 11 10) ( .take (.o 12 (.bin .add 0) [.t 11, .k 1]) <| .take (.o 13 (.bin .rem 0) [.t 9, .t 12]) <| .take (.m 6 13) <| .al (.l 16 15) ( .take (.o 17 (.bin .add 0) [.t 16, .k 1]) <| .take (.o 18 (.bin .quo 0) [.t 14, .t 17]) <| .take (.m 7 18) <| .done)) <| .al (.l 16 15) ( .take (.o 17 (.bin .add 0) [.t 16, .k 1]) <| .take (.o 18 (.bin .quo 0) [.t 14, .t 17]) <| .al (.l 11 10) ( .take (.o 12 (.bin .add 0) [.t 11, .k 1]) <| .take (.o 13 (.bin .rem 0) [.t 9, .t 12]) <| .take (.m 6 13) <| .take (.m 7 18) <| .done)))) <| .gc [] [1, 2, 4, 6, 7] Ao
theorem M8 : cFn Tryz.prog EV 59 [.c 4 true 4, .t 5] Co := ⟨Tryz.f238, _, Tryz.func238, rfl, by kernel_rfl, by kernel_rfl, by kernel_rfl, by kernel_rfl⟩
@[simp] abbrev Fw : Nat := 194
def BZ : ACode := .seq (.reg [.o 14 (.bin .lss 0) [.t 13, .t 12]]) <| .seq (.cond (.t 14) ( .skip) ( .exit 0)) <| .seq (.block 1 ( .seq (.reg [.m 15 13, .m 5 15]) <| .seq (.draw ( .take (.m 16 0) <| .take (.m 17 5) <| .take (.o 18 (.iadr 1) [.t 16, .t 17]) <| .take (.m 20 1) <| .take (.m 21 5) <| .take (.o 22 (.iadr 1) [.t 20, .t 21]) <| .alt (.l 19 18) ( .al (.l 23 22) ( .take (.o 24 (.bin .neq 0) [.t 19, .t 23]) <| .done)) <| .al (.l 23 22) ( .al (.l 19 18) ( .take (.o 24 (.bin .neq 0) [.t 19, .t 23]) <| .done)))) <| .cond (.t 24) ( .seq (.reg [.o 4 .mv [.kb false]]) <| .ret) ( .skip))) <| .reg [.o 25 (.bin .add 0) [.t 13, .k 1], .m 13 25]
def Fx : ACode := .seq (.reg [.o 4 .mv [.kb false]]) <| .seq (.seq (.reg [.m 6 0, .n 7 6, .m 8 1, .n 9 8, .o 10 (.bin .neq 0) [.t 7, .t 9]]) <| .cond (.t 10) ( .seq (.reg [.o 4 .mv [.kb false]]) <| .ret) ( .skip)) <| .seq (.seq (.reg [.m 11 0, .n 12 11, .o 13 .mv [.k 0]]) <| .block 0 ( .loop [(0, 1), (1, 1)] [0, 1, 12, 13] BZ)) <| .seq (.reg [.o 4 .mv [.kb true]]) <| .ret
theorem LY : cFn Tryz.prog Fw 26 [.t 4] Fx := ⟨Tryz.f194, _, Tryz.func194, rfl, by kernel_rfl, by kernel_rfl, by kernel_rfl, by kernel_rfl⟩
theorem MR : cFn Tryz.prog IG 24 [.t 2] IH := ⟨Tryz.f105, _, Tryz.func105, rfl, by kernel_rfl, by kernel_rfl, by kernel_rfl, by kernel_rfl⟩
theorem YV : cFn Tryz.prog TR 31 [.t 6] Kn := ⟨Tryz.f243, _, Tryz.func243, rfl, by kernel_rfl, by kernel_rfl, by kernel_rfl, by kernel_rfl⟩
theorem Ql : cFn Tryz.prog KI 13 [.t 2] KJ := ⟨Tryz.f225, _, Tryz.func225, rfl, by kernel_rfl, by kernel_rfl, by kernel_rfl, by kernel_rfl⟩
theorem TS : cFn Tryz.prog MO 72 [.t 4, .t 5, .t 6, .t 7, .t 8] MP := ⟨Tryz.f200, _, Tryz.func200, rfl, by kernel_rfl, by kernel_rfl, by kernel_rfl, by kernel_rfl⟩
theorem UZ : cFn Tryz.prog Ni 62 [.t 6] Nj := ⟨Tryz.f199, _, Tryz.func199, rfl, by kernel_rfl, by kernel_rfl, by kernel_rfl, by kernel_rfl⟩
theorem Ua : cFn Tryz.prog Nk 67 [.t 6, .t 7] Nl := ⟨Tryz.f142, _, Tryz.func142, rfl, by kernel_rfl, by kernel_rfl, by kernel_rfl, by kernel_rfl⟩
theorem Nn : cFn Tryz.prog GR 35 [.c 2 true 6] Jh := ⟨Tryz.f72, _, Tryz.func72, rfl, by kernel_rfl, by kernel_rfl, by kernel_rfl, by kernel_rfl⟩
theorem Pz : cFn Tryz.prog HI 139 [.c 4 true 6, .t 5] HJ := ⟨Tryz.f73, _, Tryz.func73, rfl, by kernel_rfl, by kernel_rfl, by kernel_rfl, by kernel_rfl⟩
theorem OK : cFn Tryz.prog Ep 8 [.t 2] Hx := ⟨Tryz.f189, _, Tryz.func189, rfl, by kernel_rfl, by kernel_rfl, by kernel_rfl, by kernel_rfl⟩
theorem Qm : cFn Tryz.prog J5 6 [.t 2] J6 := ⟨Tryz.f135, _, Tryz.func135, rfl, by kernel_rfl, by kernel_rfl, by kernel_rfl, by kernel_rfl⟩
theorem P0 : cFn Tryz.prog FQ 72 [.t 4, .t 5] BH := ⟨Tryz.f136, _, Tryz.func136, rfl, by kernel_rfl, by kernel_rfl, by kernel_rfl, by kernel_rfl⟩
theorem Ub : cFn Tryz.prog B3 90 [.t 4] BF := ⟨Tryz.f65, _, Tryz.func65, rfl, by kernel_rfl, by kernel_rfl, by kernel_rfl, by kernel_rfl⟩
@[simp] abbrev FX : Nat := 237
abbrev Dj : Plan := .take (.g 30 (.bin .eql 0) [.t 29, .k 1] 24 true) <| .take (.o 31 .pick [.t 24, .t 30, .kb false]) <| .take (.m 6 31) <| .take (.m 7 45) <| .done
abbrev Dk : Plan := .take (.g 30 (.bin .eql 0) [.t 29, .k 1] 24 true) <| .take (.o 31 .pick [.t 24, .t 30, .kb false]) <| .take (.m 6 31) <| .al (.lg 43 42 38 true) ( .take (.g 44 (.bin .eql 0) [.t 43, .k 2] 38 true) <| .take (.o 45 .pick [.t 38, .t 44, .kb false]) <| .take (.m 7 45) <| .done)
abbrev Dl : Plan := .take (.g 44 (.bin .eql 0) [.t 43, .k 2] 38 true) <| .take (.o 45 .pick [.t 38, .t 44, .kb false]) <| .al (.lg 29 28 24 true) Dj
def Ei : BCode := .seq (.base (.reg [.o 3 .box [.t 0], .o 6 .mv [.kb false], .o 7 .mv [.kb false]])) <| .seq (.base (.reg [.la 11 3 3, .m 12 2, .o 13 (.call 238 []) [.t 11, .t 12], .m 10 13, .e 14 0 10, .e 15 1 10, .o 8 (.alloc [.v (.int .i64 (0)), .v (.int .i64 (0)), .v (.int .i64 (0)), .v (.int .i64 (0))]) [], .s (.store 4) [.t 8, .t 14], .m 9 15])) <| .seq (.base (.seq (.reg [.m 16 9, .o 17 (.un .not) [.t 16]]) <| .cond (.t 17) ( .seq (.reg [.o 6 .mv [.kb false], .o 7 .mv [.kb false]]) <| .ret) ( .skip))) <| .frz 8 <| .seq (.early [.m 18 1, .f 19 0 8, .l 20 19, .o 21 (.iadr 1) [.t 18, .t 20], .l 22 21, .o 23 (.bin .eql 0) [.t 22, .k 1], .m 24 23, .mg 25 1 24 true, .fg 26 2 8 24 true, .m 32 1, .f 33 0 8, .l 34 33, .o 35 (.iadr 1) [.t 32, .t 34], .l 36 35, .o 37 (.bin .eql 0) [.t 36, .k 2], .m 38 37, .mg 39 1 38 true, .fg 40 1 8 38 true] ( .alt (.lg 27 26 24 true) ( .take (.g 28 (.iadr 1) [.t 25, .t 27] 24 true) <| .alt (.lg 29 28 24 true) ( .take (.g 30 (.bin .eql 0) [.t 29, .k 1] 24 true) <| .take (.o 31 .pick [.t 24, .t 30, .kb false]) <| .take (.m 6 31) <| .al (.lg 41 40 38 true) ( .take (.g 42 (.iadr 1) [.t 39, .t 41] 38 true) <| .al (.lg 43 42 38 true) ( .take (.g 44 (.bin .eql 0) [.t 43, .k 2] 38 true) <| .take (.o 45 .pick [.t 38, .t 44, .kb false]) <| .take (.m 7 45) <| .done))) <| .al (.lg 41 40 38 true) ( .take (.g 42 (.iadr 1) [.t 39, .t 41] 38 true) <| .alt (.lg 29 28 24 true) Dk <| .al (.lg 43 42 38 true) Dl)) <| .al (.lg 41 40 38 true) ( .take (.g 42 (.iadr 1) [.t 39, .t 41] 38 true) <| .alt (.lg 27 26 24 true) ( .take (.g 28 (.iadr 1) [.t 25, .t 27] 24 true) <| .alt (.lg 29 28 24 true) Dk <| .al (.lg 43 42 38 true) Dl) <| .al (.lg 43 42 38 true) ( .take (.g 44 (.bin .eql 0) [.t 43, .k 2] 38 true) <| .take (.o 45 .pick [.t 38, .t 44, .kb false]) <| .al (.lg 27 26 24 true) ( .take (.g 28 (.iadr 1) [.t 25, .t 27] 24 true) <| .al (.lg 29 28 24 true) Dj))))) <| .base (.ret)
theorem Ko : gX Tryz.prog FX 46 [.t 6, .t 7] Ei := ⟨Tryz.f237, _, Tryz.func237, rfl, by kernel_rfl, by kernel_rfl, by kernel_rfl, by kernel_rfl⟩
@[simp] abbrev JR : Nat := 192
def G5 : BCode := .seq (.base (.reg [.o 3 .box [.t 0], .o 6 .mv [.c (.os 1 [])], .o 7 .mv [.kb false]])) <| .seq (.base (.reg [.m 13 1, .o 14 (.call 126 []) [.t 13], .m 8 14])) <| .seq (.base (.reg [.la 16 3 3, .m 17 1, .m 18 2, .o 19 (.call 237 []) [.t 16, .t 17, .t 18], .m 15 19, .e 20 0 15, .e 21 1 15, .m 9 20, .m 10 21])) <| .seq (.base (.reg [.la 23 3 3, .m 24 2, .o 25 (.call 238 []) [.t 23, .t 24], .m 22 25, .e 26 0 22, .e 27 1 22, .o 11 (.alloc [.v (.int .i64 (0)), .v (.int .i64 (0)), .v (.int .i64 (0)), .v (.int .i64 (0))]) [], .s (.store 4) [.t 11, .t 26], .m 12 27])) <| .frz 11 <| .seq (.block 0 ( .seq (.base (.reg [.m 29 9, .m 28 29])) <| .cond (.t 28) ( .early [.m 30 8, .f 31 0 11, .l 32 31, .m 33 8, .f 34 1 11, .l 35 34, .m 36 8, .f 37 2 11, .l 38 37, .m 39 8, .f 40 3 11, .l 41 40, .o 42 (.iadr 1) [.t 30, .t 32]] ( .al (.s (.store 1) [.t 42, .k 2]) ( .take (.o 43 (.iadr 1) [.t 33, .t 35]) <| .al (.s (.store 1) [.t 43, .k 2]) ( .take (.o 44 (.iadr 1) [.t 36, .t 38]) <| .al (.s (.store 1) [.t 44, .k 4]) ( .take (.o 45 (.iadr 1) [.t 39, .t 41]) <| .al (.s (.store 1) [.t 45, .k 4]) ( .done)))))) ( .seq (.base (.reg [.m 47 10, .m 46 47])) <| .cond (.t 46) ( .early [.m 48 8, .f 49 0 11, .l 50 49, .m 51 8, .f 52 1 11, .l 53 52, .m 54 8, .f 55 2 11, .l 56 55, .m 57 8, .f 58 3 11, .l 59 58, .o 60 (.iadr 1) [.t 48, .t 50]] ( .al (.s (.store 1) [.t 60, .k 1]) ( .take (.o 61 (.iadr 1) [.t 51, .t 53]) <| .al (.s (.store 1) [.t 61, .k 3]) ( .take (.o 62 (.iadr 1) [.t 54, .t 56]) <| .al (.s (.store 1) [.t 62, .k 1]) ( .take (.o 63 (.iadr 1) [.t 57, .t 59]) <| .al (.s (.store 1) [.t 63, .k 3]) ( .done)))))) ( .base (.skip))))) <| .base (.seq (.reg [.m 64 8, .m 65 9, .m 66 65, .mg 67 10 66 false, .o 68 .pick [.t 66, .kb true, .t 67], .m 6 64, .m 7 68]) <| .ret)
theorem P1 : gX Tryz.prog JR 69 [.t 6, .t 7] G5 := ⟨Tryz.f192, _, Tryz.func192, rfl, by kernel_rfl, by kernel_rfl, by kernel_rfl, by kernel_rfl⟩
def swI (W c : Int) : Int := (c / (W + 1) - 1) * W + c % (W + 1) - 1
def Uc (W T c : Int) : Bool := decide (0 ≤ c ∧ 1 ≤ c % (W + 1) ∧ c % (W + 1) ≤ W - 1 ∧ 1 ≤ c / (W + 1) ∧ c / (W + 1) ≤ T - 1)
def Qn (W : Int) (ls : List Int) (c : Int) : Bool := decide (ati ls (swI W c) = 1) && decide (ati ls (swI W c + W) = 1)
def upB (W : Int) (ls : List Int) (c : Int) : Bool := decide (ati ls (swI W c) = 2) && decide (ati ls (swI W c + 1) = 2)
def Fk (W T : Int) (ls : List Int) (c : Int) : Bool := Uc W T c && (Qn W ls c || upB W ls c)
def Qo (ls : List Int) (a W : Int) (p q r s : Int) : List Int := (((ls.set a.toNat p).set (a + 1).toNat q).set (a + W).toNat r).set (a + W + 1).toNat s
def Gu (W T : Int) (ls : List Int) (c : Int) : List Int :=
 if Fk W T ls c = true then (if Qn W ls c = true then Qo ls (swI W c) W 2 2 4 4 else Qo ls (swI W c) W 1 3 1 3) else ls
theorem DC (ls : List Int) (a W p q r s : Int) : (Qo ls a W p q r s).length = ls.length := by simp [Qo]
theorem XW (W T : Int) (ls : List Int) (c : Int) : (Gu W T ls c).length = ls.length := by
 unfold Gu; split
 ·split <;> exact DC ..
 ·rfl
theorem XX {W T c : Int} (hW : 1 ≤ W) (h : Uc W T c = true) :
  ∃ x y : Int, 0 ≤ x ∧ x + 1 < W ∧ 0 ≤ y ∧ y + 1 < T ∧ swI W c = y * W + x ∧ c % (W + 1) = x + 1 ∧ c / (W + 1) = y + 1 := by
 simp only [Uc, decide_eq_true_eq] at h
 refine ⟨c % (W + 1) - 1, c / (W + 1) - 1, by omega, by omega, by omega, by omega, ?_, by omega, by omega⟩
 unfold swI; omega
theorem YW {W T c : Int} (hW : 1 ≤ W) (h : Uc W T c = true) : 0 ≤ swI W c ∧ swI W c + W + 1 < W * T := by
 obtain ⟨x, y, x0, x1, y0, y1, e, _⟩ := XX hW h
 rw [e]
 have h1 : 0 ≤ y * W := Int.mul_nonneg y0 (by omega)
 have h2 : (y + 1 + 1) * W ≤ T * W := Int.mul_le_mul_of_nonneg_right (by omega) (by omega)
 have h3 : (y + 1 + 1) * W = y * W + W + W := by rw [Int.add_mul, Int.add_mul, Int.one_mul]
 rw [Int.mul_comm T W] at h2
 omega
theorem My {xs : List Int} {i k : Int} {v : Int} (h0 : 0 ≤ i) (h : i < xs.length) (hk : 0 ≤ k) : ati (xs.set i.toNat v) k = if k = i then v else ati xs k := by
 have := Lh (xs := xs) (i := i.toNat) (k := k.toNat) (v := v) (by omega)
 rw [show ((k.toNat : Nat) : Int) = k by omega] at this
 rw [this]
 by_cases e : k = i
 ·rw [if_pos e, if_pos (by omega)]
 ·rw [if_neg e, if_neg (by omega)]
theorem ZF {ls : List Int} {a W p q r s k : Int} (h0 : 0 ≤ a) (hW : 1 ≤ W) (h : a + W + 1 < ls.length) (hk : 0 ≤ k) :
  ati (Qo ls a W p q r s) k = if k = a + W + 1 then s else if k = a + W then r else if k = a + 1 then q else if k = a then p else ati ls k := by
 unfold Qo
 rw [My (by omega) (by simp; omega) hk, My (by omega) (by simp; omega) hk, My (by omega) (by simp; omega) hk, My (by omega) (by omega) hk]
theorem gz {xs ys : List Int} (hl : xs.length = ys.length) (h : ∀ k : Nat, k < xs.length → ati xs k = ati ys k) : xs = ys := by
 apply List.ext_getElem hl
 intro i h1 h2
 have := h i h1
 simpa [ati, h1, h2] using this
theorem bj {W T x y : Int} (hW : 1 ≤ W) (x0 : 0 ≤ x) (x1 : x + 1 < W) (y0 : 0 ≤ y) (y1 : y + 1 < T) :
  AJ W T (y * W + x) 1 = y * W + x + 1 ∧ AJ W T (y * W + x) 2 = y * W + x + W ∧ AJ W T (y * W + x + W) 1 = y * W + x + W + 1 ∧ AJ W T (y * W + x + 1) 2 = y * W + x + 1 + W := by
 have c1 := X9 (W := W) (x := x) (y := y) x0 (by omega)
 have c2 := X9 (W := W) (x := x + 1) (y := y) (by omega) (by omega)
 have c3 := X9 (W := W) (x := x) (y := y + 1) x0 (by omega)
 have hm : (y + 1) * W = y * W + W := by rw [Int.add_mul, Int.one_mul]
 rw [show (y + 1) * W + x = y * W + x + W by omega] at c3
 rw [show y * W + (x + 1) = y * W + x + 1 by omega] at c2
 refine ⟨?_, ?_, ?_, ?_⟩
 ·unfold AJ; rw [c1.1, if_pos ⟨rfl, by omega⟩]
 ·unfold AJ; rw [c1.2, if_neg (by omega), if_pos ⟨rfl, by omega⟩]
 ·unfold AJ; rw [c3.1, if_pos ⟨rfl, by omega⟩]
 ·unfold AJ; rw [c2.2, if_neg (by omega), if_pos ⟨rfl, by omega⟩]
theorem ZG {W T : Int} {cs : List Bool} {ls : List Int} {k : Int} (hy : AO W T cs ls = true) (h0 : 0 ≤ k) (hk : k < ls.length) (hv : ati ls k ≠ 0) :
  1 ≤ ati ls k ∧ ati ls k ≤ 4 ∧ atb cs k = true ∧ 0 ≤ AJ W T k (ati ls k) ∧ atb cs (AJ W T k (ati ls k)) = true ∧ ati ls (AJ W T k (ati ls k)) = Ck (ati ls k) := by
 have e : ((k.toNat : Nat) : Int) = k := by omega
 have := IB (k := k.toNat) hy (by omega) (by rw [e]; exact hv)
 rw [e] at this
 exact this
theorem ZH {W T : Int} {cs : List Bool} {ls : List Int} {k t : Int} (hr : Az W T cs = true) (hy : AO W T cs ls = true) (h0 : 0 ≤ k) (hk : k < ls.length) (hv : ati ls k ≠ 0) (ht : AJ W T k (ati ls k) = t) :
  AO W T cs (Kl W T ls k) = true ∧ (Kl W T ls k).length = ls.length ∧ ∀ j : Int, 0 ≤ j → ati (Kl W T ls k) j = if j = k then 0 else if j = t then 0 else ati ls j := by
 have e : ((k.toNat : Nat) : Int) = k := by omega
 obtain ⟨t', h1, h2, h3, h4⟩ := WO (k := k.toNat) hr hy (by omega) (by rw [e]; exact hv)
 have h5 := bi (k := k.toNat) hr hy (by omega) (by rw [e]; exact hv)
 rw [e] at h1 h4 h5
 refine ⟨h5, MM .., fun j hj => ?_⟩
 have := h4 j.toNat
 rw [show ((j.toNat : Nat) : Int) = j by omega] at this
 rw [this]
 by_cases e1 : j = k
 ·rw [if_pos (by omega), if_pos e1]
 ·rw [if_neg (by omega), if_neg e1]
  by_cases e2 : j = t
  ·rw [if_pos (by omega), if_pos e2]
  ·rw [if_neg (by omega), if_neg e2]
theorem bm {W T : Int} {cs : List Bool} {ls : List Int} {k way t : Int} (hr : Az W T cs = true) (hy : AO W T cs ls = true) (hf : BU W T cs ls k way = true) (ht : AJ W T k way = t) :
  AO W T cs (C2 W T ls k way) = true ∧ (C2 W T ls k way).length = ls.length ∧ ∀ j : Int, 0 ≤ j → ati (C2 W T ls k way) j = if j = t then Ck way else if j = k then way else ati ls j := by
 have hl := An hy
 obtain ⟨w1, w2, t1, t2, l1, _⟩ := CK hr
 have hf2 := hf
 simp only [BU, decide_eq_true_eq] at hf2
 obtain ⟨f0, f1, f2, f3, f4, f5, f6⟩ := hf2
 have sb := DK (W := W) (T := T) (k := k) (way := way) w1 f0 (by omega) f2
 refine ⟨NC hr hy hf, AL .., fun j hj => ?_⟩
 subst ht
 unfold C2
 rw [My f2 (by simp; omega) hj, My f0 (by omega) hj]
theorem bn {W T : Int} {cs : List Bool} {ls : List Int} {k way t : Int} (h0 : 0 ≤ k) (h1 : k < cs.length) (ht : AJ W T k way = t) (h2 : 0 ≤ t) (h3 : atb cs k = true) (h4 : atb cs t = true) (h5 : ati ls k = 0) (h6 : ati ls t = 0) : BU W T cs ls k way = true := by
 subst ht
 simp [BU, h0, h1, h2, h3, h4, h5, h6]
theorem bp {W T : Int} {cs : List Bool} {ls l4 : List Int} {a p q r w v : Int} (hr : Az W T cs = true) (hy : AO W T cs ls = true)
  (a0 : 0 ≤ a ∧ a < ls.length) (p0 : 0 ≤ p ∧ p < ls.length) (q0 : 0 ≤ q ∧ q < ls.length) (r0 : 0 ≤ r ∧ r < ls.length) (d1 : a ≠ p) (d2 : a ≠ q) (d3 : a ≠ r) (d4 : p ≠ q) (d5 : p ≠ r) (d6 : q ≠ r)
  (s1 : AJ W T a w = p) (s2 : AJ W T q w = r) (s3 : AJ W T a v = q) (s4 : AJ W T p v = r) (hw : w ≠ 0) (h1 : ati ls a = w) (h2 : ati ls q = w) (hl4 : l4.length = ls.length)
  (h4 : ∀ j : Int, 0 ≤ j → ati l4 j = if j = r then Ck v else if j = p then v else if j = q then Ck v else if j = a then v else ati ls j) :
  (atb cs a = true ∧ atb cs p = true ∧ atb cs q = true ∧ atb cs r = true) ∧ AO W T cs l4 = true := by
 have hl := An hy
 obtain ⟨_, _, a3, a4, a5, a6⟩ := ZG hy a0.1 a0.2 (by rw [h1]; exact hw)
 obtain ⟨_, _, c3, c4, c5, c6⟩ := ZG hy q0.1 q0.2 (by rw [h2]; exact hw)
 rw [h1, s1] at a4 a5 a6
 rw [h2, s2] at c4 c5 c6
 refine ⟨⟨a3, a5, c3, c5⟩, ?_⟩
 obtain ⟨g1, g2, g3⟩ := ZH (k := a) (t := p) hr hy a0.1 a0.2 (by rw [h1]; exact hw) (by rw [h1, s1])
 generalize Kl W T ls a = l1 at *
 have v1 : ati l1 q = w := by rw [g3 _ q0.1, if_neg (fun e => d2 e.symm), if_neg (fun e => d4 e.symm), h2]
 obtain ⟨k1, k2, k3⟩ := ZH (k := q) (t := r) hr g1 q0.1 (by omega) (by rw [v1]; exact hw) (by rw [v1, s2])
 generalize Kl W T l1 q = l2 at *
 have za : ati l2 a = 0 := by rw [k3 a a0.1, if_neg d2, if_neg d3, g3 a a0.1, if_pos rfl]
 have zp : ati l2 p = 0 := by rw [k3 p p0.1, if_neg d4, if_neg d5, g3 p p0.1, if_neg (fun e => d1 e.symm), if_pos rfl]
 have zq : ati l2 q = 0 := by rw [k3 q q0.1, if_pos rfl]
 have zr : ati l2 r = 0 := by rw [k3 r r0.1, if_neg (fun e => d6 e.symm), if_pos rfl]
 obtain ⟨m1, m2, m3⟩ := bm (k := a) (way := v) (t := q) hr k1 (bn a0.1 (by omega) s3 q0.1 a3 c3 za zq) s3
 generalize C2 W T l2 a v = l3 at *
 have yp : ati l3 p = 0 := by rw [m3 p p0.1, if_neg d4, if_neg (fun e => d1 e.symm), zp]
 have yr : ati l3 r = 0 := by rw [m3 r r0.1, if_neg (fun e => d6 e.symm), if_neg (fun e => d3 e.symm), zr]
 obtain ⟨n1, n2, n3⟩ := bm (k := p) (way := v) (t := r) hr m1 (bn p0.1 (by omega) s4 r0.1 a5 c5 yp yr) s4
 generalize C2 W T l3 p v = l5 at *
 have e : l4 = l5 := by
  refine gz (by omega) fun k hk => ?_
  rw [h4 k (by omega), n3 k (by omega)]
  by_cases e1 : (k : Int) = r
  ·rw [if_pos e1, if_pos e1]
  rw [if_neg e1, if_neg e1]
  by_cases e2 : (k : Int) = p
  ·rw [if_pos e2, if_pos e2]
  rw [if_neg e2, if_neg e2, m3 k (by omega)]
  by_cases e3 : (k : Int) = q
  ·rw [if_pos e3, if_pos e3]
  rw [if_neg e3, if_neg e3]
  by_cases e4 : (k : Int) = a
  ·rw [if_pos e4, if_pos e4]
  rw [if_neg e4, if_neg e4, k3 k (by omega), if_neg e3, if_neg e1, g3 k (by omega), if_neg e4, if_neg e2]
 rw [e]; exact n1
theorem bq {W T : Int} {cs : List Bool} {ls : List Int} {c : Int} (hr : Az W T cs = true) (hy : AO W T cs ls = true) (hf : Fk W T ls c = true) :
  (atb cs (swI W c) = true ∧ atb cs (swI W c + 1) = true ∧ atb cs (swI W c + W) = true ∧ atb cs (swI W c + W + 1) = true) ∧ AO W T cs (Gu W T ls c) = true := by
 obtain ⟨w1, w2, t1, t2, l1, _⟩ := CK hr
 have hl := An hy
 have hf2 := hf
 simp only [Fk, Bool.and_eq_true, Bool.or_eq_true] at hf2
 obtain ⟨hm, hf3⟩ := hf2
 obtain ⟨s0, s1⟩ := YW w1 hm
 obtain ⟨x, y, x0, x1, y0, y1, e, _⟩ := XX w1 hm
 obtain ⟨q1, q2, q3, q4⟩ := bj (T := T) w1 x0 x1 y0 y1
 rw [← e] at q1 q2 q3 q4
 have hW2 : 2 ≤ W := by omega
 have key : Gu W T ls c = if Qn W ls c = true then Qo ls (swI W c) W 2 2 4 4 else Qo ls (swI W c) W 1 3 1 3 := by unfold Gu; rw [if_pos hf]
 rw [key]
 by_cases hF : Qn W ls c = true
 ·rw [if_pos hF]
  simp only [Qn, Bool.and_eq_true, decide_eq_true_eq] at hF
  generalize swI W c = a at *
  have := bp (l4 := Qo ls a W 2 2 4 4) (a := a) (p := a + 1) (q := a + W) (r := a + W + 1) (w := 1) (v := 2) hr hy (by omega) (by omega) (by omega) (by omega) (by omega) (by omega) (by omega) (by omega) (by omega) (by omega)
   q1 q3 q2 (by rw [q4]; omega) (by decide) hF.1 hF.2 (DC ..) (fun j hj => by
    rw [ZF s0 w1 (by omega) hj, show Ck 2 = 4 by decide]
    by_cases e1 : j = a + W + 1
    ·rw [if_pos e1, if_pos e1]
    rw [if_neg e1, if_neg e1]
    by_cases e2 : j = a + W
    ·rw [if_pos e2, if_neg (by omega), if_pos e2]
    rw [if_neg e2, if_neg e2])
  exact ⟨⟨this.1.1, this.1.2.1, this.1.2.2.1, this.1.2.2.2⟩, this.2⟩
 ·rw [if_neg hF]
  have hU : upB W ls c = true := hf3.resolve_left hF
  simp only [upB, Bool.and_eq_true, decide_eq_true_eq] at hU
  generalize swI W c = a at *
  have := bp (l4 := Qo ls a W 1 3 1 3) (a := a) (p := a + W) (q := a + 1) (r := a + W + 1) (w := 2) (v := 1) hr hy (by omega) (by omega) (by omega) (by omega) (by omega) (by omega) (by omega) (by omega) (by omega) (by omega)
   q2 (by rw [q4]; omega) q1 q3 (by decide) hU.1 hU.2 (DC ..) (fun j hj => by
    rw [ZF s0 w1 (by omega) hj, show Ck 1 = 3 by decide])
  exact ⟨⟨this.1.1, this.1.2.2.1, this.1.2.1, this.1.2.2.2⟩, this.2⟩
theorem Np {W T : Int} {cs : List Bool} {ds : List Int} : ∀ (n : Nat) (ls : List Int), Af W T cs ds ls = true →
  Ie ls ≤ Ie (Aq W T cs ds n ls) ∧ (Aq W T cs ds n ls = ls ∨ Ie ls < Ie (Aq W T cs ds n ls))
 | 0, ls, _ => ⟨Nat.le_refl _, .inl rfl⟩
 | n + 1, ls, hf => by
   obtain ⟨hr, hd, hy, ho⟩ := AR hf
   have hl := An hy
   unfold Aq
   by_cases hb : Br W T cs ds ls = true
   ·have h1 := YT (ds := ds) hr hl hb
    have h2 := Np n (BN W T cs ds ls) (Ke hf)
    simp only [hb, if_true]
    exact ⟨by omega, .inr (by omega)⟩
   ·have hb' : Br W T cs ds ls = false := by simpa using hb
    simp [hb']
theorem WR {W T : Int} {cs : List Bool} {ds ls : List Int} (hf : Af W T cs ds ls = true) : (Ie ls < Ie (BA W T cs ds ls)) ↔ BA W T cs ds ls ≠ ls := by
 obtain ⟨h1, h2⟩ := Np ls.length ls hf
 unfold BA at *
 constructor
 ·intro h e; rw [e] at h; omega
 ·intro h; exact h2.resolve_left h
def ZI (W T : Int) (cs : List Bool) (x y : Int) : Bool := decide (0 ≤ x ∧ x ≤ W - 1) && (decide (0 ≤ y ∧ y ≤ T - 1) && atb cs (y * W + x))
theorem mN {W T x y : Int} (h1 : 0 ≤ x ∧ x ≤ W - 1) (h2 : 0 ≤ y ∧ y ≤ T - 1) : 0 ≤ y * W ∧ y * W + x < W * T := by
 have a1 : 0 ≤ y * W := Int.mul_nonneg h2.1 (by omega)
 have a2 : (y + 1) * W ≤ T * W := Int.mul_le_mul_of_nonneg_right (by omega) (by omega)
 rw [Int.add_mul, Int.one_mul, Int.mul_comm T W] at a2
 omega
theorem Kp (W T : Int) (cs : List Bool) (x y : Int) (hr : Az W T cs = true) (hx : -9 ≤ x ∧ x ≤ 9 * 2 ^ 40) (hy : -9 ≤ y ∧ y ≤ 9 * 2 ^ 40) :
  SoundAt Tryz.prog TR [.agg [.v (.int .i64 W), .v (.int .i64 T), .sl 1 1 (AC cs)], .v (.int .i64 x), .v (.int .i64 y)] (.v (.bool (ZI W T cs x y))) [.bot, .bot, .bot] := by
 obtain ⟨w1, w2, t1, t2, l1, _⟩ := CK hr
 have h36 := AZ hr
 refine AE (md := md5) (ms := [false, false, false]) YV (by simp) ?_
 by_cases h1 : 0 ≤ x ∧ x ≤ W - 1
 ·by_cases h2 : 0 ≤ y ∧ y ≤ T - 1
  ·obtain ⟨m1, m2⟩ := mN h1 h2
   simp [Kn, ZI, h1, h2]
   refine ⟨by omega, ?_⟩
   refine AA (C4 (x := x) (lo := 0) (hi := W - 1) h1) ?_
   simp
   refine ⟨by omega, ?_⟩
   refine AA (C4 (x := y) (lo := 0) (hi := T - 1) h2) ?_
   have n1 : 0 ≤ y * W + x := by omega
   have n2 : y * W + x < cs.length := by omega
   simp [n1, n2]
   omega
  ·simp [Kn, ZI, h1, h2]
   refine ⟨by omega, ?_⟩
   refine AA (C4 (x := x) (lo := 0) (hi := W - 1) h1) ?_
   simp
   refine ⟨by omega, ?_⟩
   refine AA (EC (x := y) (lo := 0) (hi := T - 1) h2) ?_
   simp
 ·simp [Kn, ZI, h1]
  refine ⟨by omega, ?_⟩
  refine AA (EC (x := x) (lo := 0) (hi := W - 1) h1) ?_
  simp
def cd (W T : Int) : Int := (W + 1) * (T + 1)
theorem br {W T : Int} (w1 : 1 ≤ W) (w2 : W ≤ 6) (t1 : 1 ≤ T) (t2 : T ≤ 6) : 4 ≤ cd W T ∧ cd W T ≤ 49 := by
 have h1 : (2 : Int) * 2 ≤ (W + 1) * (T + 1) := Int.mul_le_mul (by omega) (by omega) (by omega) (by omega)
 have h2 : (W + 1) * (T + 1) ≤ 7 * 7 := Int.mul_le_mul (by omega) (by omega) (by omega) (by omega)
 unfold cd; omega
theorem Qp (W T : Int) (cs : List Bool) (hb : cs.length < 2 ^ 40) :
  SoundAt Tryz.prog KI [.agg [.v (.int .i64 W), .v (.int .i64 T), .sl 1 1 (AC cs)]] (.v (.int .i64 (if Az W T cs = true then cd W T else -1))) [.bot] := by
 refine AE (md := md5) (ms := [false]) Ql (by simp) ?_
 simp [KJ]
 refine AA (BG W T cs hb) ?_
 cases hr : Az W T cs with
 | false => simp
 | true =>
   obtain ⟨w1, w2, t1, t2, l1, _⟩ := CK hr
   have := br w1 w2 t1 t2
   unfold cd at *
   simp
   omega
def sqB (W T : Int) (cs : List Bool) (c : Int) : Bool :=
 ((ZI W T cs (c % (W + 1) - 1) (c / (W + 1) - 1) && ZI W T cs (c % (W + 1)) (c / (W + 1) - 1)) && ZI W T cs (c % (W + 1) - 1) (c / (W + 1))) && ZI W T cs (c % (W + 1)) (c / (W + 1))
theorem bt {W T : Int} {cs : List Bool} {c : Int} (h0 : 0 ≤ c) (h : sqB W T cs c = true) : Uc W T c = true := by
 simp only [sqB, ZI, Bool.and_eq_true, decide_eq_true_eq] at h
 simp only [Uc, decide_eq_true_eq]
 omega
set_option maxHeartbeats 1000000 in
theorem MS (W T : Int) (cs : List Bool) (c : Int) (hr : Az W T cs = true) (h0 : 0 ≤ c) (h1 : c < 2 ^ 40) :
  SoundAt Tryz.prog MO [.agg [.v (.int .i64 W), .v (.int .i64 T), .sl 1 1 (AC cs)], .v (.int .i64 c)]
   (if sqB W T cs c = true then .tup [.v (.int .i64 (swI W c)), .v (.int .i64 (swI W c + 1)), .v (.int .i64 (swI W c + W)), .v (.int .i64 (swI W c + W + 1)), .v (.bool true)]
    else .tup [.v (.int .i64 0), .v (.int .i64 0), .v (.int .i64 0), .v (.int .i64 0), .v (.bool false)]) [.bot, .bot] := by
 obtain ⟨w1, w2, t1, t2, l1, _⟩ := CK hr
 have h36 := AZ hr
 have m1 := Int.emod_nonneg c (show W + 1 ≠ 0 by omega)
 have m2 := Int.emod_lt_of_pos c (show 0 < W + 1 by omega)
 have m3 := Int.ediv_nonneg h0 (show 0 ≤ W + 1 by omega)
 have m4 := Int.ediv_le_self (W + 1) h0
 have hs := @bt W T cs c h0
 have c1 := Kp W T cs (c % (W + 1) - 1) (c / (W + 1) - 1) hr (by omega) (by omega)
 have c2 := Kp W T cs (c % (W + 1)) (c / (W + 1) - 1) hr (by omega) (by omega)
 have c3 := Kp W T cs (c % (W + 1) - 1) (c / (W + 1)) hr (by omega) (by omega)
 have c4 := Kp W T cs (c % (W + 1)) (c / (W + 1)) hr (by omega) (by omega)
 have hsw := @YW W T c w1
 have hsd : swI W c = (c / (W + 1) - 1) * W + c % (W + 1) - 1 := rfl
 unfold sqB at *
 have w0 : 1 ≤ W + 1 := by omega
 refine AE (md := md5) (ms := [false, false]) TS (by simp) ?_
 simp [MP, h0, w0]
 generalize c % (W + 1) = x at *
 generalize c / (W + 1) = y at *
 refine ⟨by omega, by omega, by omega, by omega, ?_⟩
 refine AA c1 ?_
 cases b1 : ZI W T cs (x - 1) (y - 1) with
 | false => simp
 | true =>
 simp
 refine ⟨by omega, ?_⟩
 refine AA c2 ?_
 cases b2 : ZI W T cs x (y - 1) with
 | false => simp
 | true =>
 simp
 refine ⟨by omega, ?_⟩
 refine AA c3 ?_
 cases b3 : ZI W T cs (x - 1) y with
 | false => simp
 | true =>
 simp
 refine AA c4 ?_
 cases b4 : ZI W T cs x y with
 | false => simp
 | true =>
 have hm := hsw (hs (by simp [b1, b2, b3, b4]))
 rw [hsd] at hm
 rw [hsd]
 simp
 generalize (y - 1) * W = z at *
 (repeat' first | omega | rfl | apply And.intro)
theorem bu {W T c : Int} (w1 : 1 ≤ W) (t1 : 1 ≤ T) (h : Uc W T c = true) : 0 ≤ c ∧ c ≤ cd W T - 1 := by
 simp only [Uc, decide_eq_true_eq] at h
 refine ⟨h.1, ?_⟩
 have e := Int.mul_ediv_add_emod c (W + 1)
 have m2 := Int.emod_lt_of_pos c (show 0 < W + 1 by omega)
 have h2 : (W + 1) * (c / (W + 1)) ≤ (W + 1) * T := Int.mul_le_mul_of_nonneg_left (by omega) (by omega)
 unfold cd
 rw [Int.mul_add, Int.mul_one]
 omega
theorem fG {W T : Int} {cs : List Bool} {ls : List Int} {c : Int} (hr : Az W T cs = true) (hy : AO W T cs ls = true) (h0 : 0 ≤ c) :
  (sqB W T cs c && (Qn W ls c || upB W ls c)) = Fk W T ls c := by
 obtain ⟨w1, w2, t1, t2, l1, _⟩ := CK hr
 cases hf : Fk W T ls c with
 | true =>
   obtain ⟨⟨a1, a2, a3, a4⟩, _⟩ := bq hr hy hf
   have hf2 := hf
   simp only [Fk, Bool.and_eq_true] at hf2
   obtain ⟨x, y, x0, x1, y0, y1, e, ex, ey⟩ := XX w1 hf2.1
   have hm : (y + 1) * W = y * W + W := by rw [Int.add_mul, Int.one_mul]
   rw [e] at a1 a2 a3 a4
   rw [hf2.2, Bool.and_true]
   simp only [sqB, ZI, ex, ey, Bool.and_eq_true, decide_eq_true_eq]
   refine ⟨⟨⟨⟨by omega, by omega, ?_⟩, by omega, by omega, ?_⟩, by omega, by omega, ?_⟩, by omega, by omega, ?_⟩
   ·rw [show (y + 1 - 1) * W + (x + 1 - 1) = y * W + x by rw [show y + 1 - 1 = y by omega]; omega]; exact a1
   ·rw [show (y + 1 - 1) * W + (x + 1) = y * W + x + 1 by rw [show y + 1 - 1 = y by omega]; omega]; exact a2
   ·rw [show (y + 1) * W + (x + 1 - 1) = y * W + x + W by omega]; exact a3
   ·rw [show (y + 1) * W + (x + 1) = y * W + x + W + 1 by omega]; exact a4
 | false =>
   cases hs : sqB W T cs c with
   | false => rfl
   | true =>
     have hm := bt h0 hs
     simp only [Fk, hm, Bool.true_and] at hf
     simp [hf]
def kL (W T : Int) (cs : List Bool) (ls : List Int) (c : Int) : Bool := (Az W T cs && AO W T cs ls) && Fk W T ls c
theorem Ud (W T : Int) (cs : List Bool) (ls : List Int) (c : Int) (hb : cs.length < 2 ^ 40) (hl : ls.length < 2 ^ 40) :
  SoundAt Tryz.prog Ni [.agg [.v (.int .i64 W), .v (.int .i64 T), .sl 1 1 (AC cs)], .sl 1 1 (AB ls), .v (.int .i64 c)] (.v (.bool (kL W T cs ls c))) [.bot, .bot, .bot] := by
 refine AE (md := md5) (ms := [false, false, false]) UZ (by simp) ?_
 simp [Nj]
 refine AA (BV W T cs ls hb hl) ?_
 unfold kL
 cases hq : (Az W T cs && AO W T cs ls) with
 | false => simp
 | true =>
 simp only [Bool.and_eq_true] at hq
 obtain ⟨hr, hy⟩ := hq
 obtain ⟨w1, w2, t1, t2, l1, _⟩ := CK hr
 have h36 := AZ hr
 have hlen := An hy
 have hc := br w1 w2 t1 t2
 have cm := Qp W T cs hb
 rw [if_pos hr] at cm
 simp
 refine AA cm ?_
 simp
 refine ⟨by omega, ?_⟩
 by_cases hin : 0 ≤ c ∧ c ≤ cd W T - 1
 case neg =>
  have hf : Fk W T ls c = false := by
   cases hf : Fk W T ls c with
   | false => rfl
   | true =>
     simp only [Fk, Bool.and_eq_true] at hf
     exact absurd (bu w1 t1 hf.1) hin
  refine AA (EC (x := c) (lo := 0) (hi := cd W T - 1) hin) ?_
  simp [hf]
 refine AA (C4 (x := c) (lo := 0) (hi := cd W T - 1) hin) ?_
 simp
 have sq := MS W T cs c hr hin.1 (by omega)
 have me := fG (c := c) hr hy hin.1
 cases hs : sqB W T cs c with
 | false =>
   have hff : Fk W T ls c = false := by rw [← me, hs]; rfl
   rw [if_neg (by rw [hs]; decide)] at sq
   refine AA sq ?_
   simp [hff]
 | true =>
   have hff : Fk W T ls c = (Qn W ls c || upB W ls c) := by rw [← me, hs]; rfl
   rw [if_pos hs] at sq
   have hm := YW w1 (bt hin.1 hs)
   rw [hff]
   refine AA sq ?_
   have q0 := hm.1
   have q1 : swI W c < ls.length := by omega
   have q2 : 0 ≤ swI W c + W := by omega
   have q3 : swI W c + W < ls.length := by omega
   have q4 : 0 ≤ swI W c + 1 := by omega
   have q5 : swI W c + 1 < ls.length := by omega
   unfold Qn upB
   by_cases e1 : ati ls (swI W c) = 1
   ·have e2 : ¬ ati ls (swI W c) = 2 := by omega
    simp [q0, q1, q2, q3, q4, q5, e1, e2]
   ·by_cases e2 : ati ls (swI W c) = 2
    ·simp [q0, q1, q2, q3, q4, q5, e1, e2]
     by_cases e3 : ati ls (swI W c + 1) = 2 <;> simp [e3]
    ·simp [q0, q1, q2, q3, q4, q5, e1, e2]
theorem bw {ls : List Int} {a W : Int} (h0 : 0 ≤ a) (hW : 2 ≤ W) (p q r s : Int) : (((ls.set a.toNat p).set (a + W).toNat r).set (a + 1).toNat q).set (a + W + 1).toNat s = Qo ls a W p q r s := by
 unfold Qo
 rw [List.set_comm _ _ (show (a + W).toNat ≠ (a + 1).toNat by omega)]
def g8 (W T : Int) (cs : List Bool) (ls : List Int) (c : Int) : List Int := if (Az W T cs && AO W T cs ls) = true then Gu W T ls c else []
set_option maxHeartbeats 1000000 in
theorem Ue (W T : Int) (cs : List Bool) (ls : List Int) (c : Int) (hb : cs.length < 2 ^ 40) (hl : ls.length < 2 ^ 40) :
  SoundAt Tryz.prog Nk [.agg [.v (.int .i64 W), .v (.int .i64 T), .sl 1 1 (AC cs)], .sl 1 1 (AB ls), .v (.int .i64 c)]
   (.tup [.os 1 (AB (g8 W T cs ls c)), .v (.bool (kL W T cs ls c))]) [.bot, .bot, .bot] := by
 refine AE (md := md5) (ms := [false, false, false]) Ua (by simp) ?_
 simp [Nl]
 refine AA (BV W T cs ls hb hl) ?_
 have may := Ud W T cs ls c hb hl
 unfold kL g8 at *
 cases hq : (Az W T cs && AO W T cs ls) with
 | false => simp
 | true =>
 rw [hq] at may
 rw [if_pos rfl]
 simp only [Bool.and_eq_true] at hq
 obtain ⟨hr, hy⟩ := hq
 obtain ⟨w1, w2, t1, t2, l1, _⟩ := CK hr
 have h36 := AZ hr
 have hlen := An hy
 simp
 refine ⟨by omega, ?_⟩
 cases hf : Fk W T ls c with
 | false =>
   rw [hf] at may
   refine AA may ?_
   have e : Gu W T ls c = ls := by unfold Gu; rw [hf]; rfl
   simp [e]
 | true =>
   rw [hf] at may
   refine AA may ?_
   have hf2 := hf
   simp only [Fk, Bool.and_eq_true] at hf2
   have hW2 : 2 ≤ W := by
    obtain ⟨x, y, x0, x1, _⟩ := XX w1 hf2.1
    omega
   have hc0 := (bu w1 t1 hf2.1)
   have hcor := br w1 w2 t1 t2
   have me := fG (c := c) hr hy hc0.1
   rw [hf] at me
   have hs : sqB W T cs c = true := by
    simp only [Bool.and_eq_true] at me
    exact me.1
   have sq := MS W T cs c hr hc0.1 (by omega)
   rw [if_pos hs] at sq
   have hm := YW w1 hf2.1
   have q0 := hm.1
   have q1 : swI W c < ls.length := by omega
   have q2 : 0 ≤ swI W c + W := by omega
   have q3 : swI W c + W < ls.length := by omega
   have q4 : 0 ≤ swI W c + 1 := by omega
   have q5 : swI W c + 1 < ls.length := by omega
   have q6 : 0 ≤ swI W c + W + 1 := by omega
   have q7 : swI W c + W + 1 < ls.length := by omega
   simp
   refine AA sq ?_
   by_cases hF : Qn W ls c = true
   ·have e : Gu W T ls c = Qo ls (swI W c) W 2 2 4 4 := by unfold Gu; rw [if_pos hf, if_pos hF]
    have hF2 := hF
    simp only [Qn, Bool.and_eq_true, decide_eq_true_eq] at hF2
    have ht : (AB (Qo ls (swI W c) W 2 2 4 4)).take ls.length = AB (Qo ls (swI W c) W 2 2 4 4) := List.take_of_length_le (by simp [DC])
    unfold Qo at ht e
    simp [q0, q1, q2, q3, q4, q5, q6, q7, hF2.1, EA, e, ht]
   ·have e : Gu W T ls c = Qo ls (swI W c) W 1 3 1 3 := by unfold Gu; rw [if_pos hf, if_neg hF]
    have hU : upB W ls c = true := by
     have := hf2.2
     simp only [Bool.or_eq_true] at this
     exact this.resolve_left hF
    simp only [upB, Bool.and_eq_true, decide_eq_true_eq] at hU
    have hn1 : ¬ ati ls (swI W c) = 1 := by omega
    have ht : (AB (Qo ls (swI W c) W 1 3 1 3)).take ls.length = AB (Qo ls (swI W c) W 1 3 1 3) := List.take_of_length_le (by simp [DC])
    have e4 := bw (ls := ls) q0 hW2 1 3 1 3
    simp [q0, q1, q2, q3, q4, q5, q6, q7, hU.1, hn1, EA, e, e4, ht, DC]
def Fy : BCode := .seq (.base (.reg [.o 2 .box [.t 0], .o 4 (.alloc [.v (.int .i64 (0)), .v (.int .i64 (0)), .v (.int .i64 (0)), .v (.int .i64 (0))]) [], .o 5 .mv [.kb false]])) <| .seq (.calm [(false, .m 9 1), (false, .f 10 0 2), (false, .l 11 10), (false, .o 12 (.bin .add 0) [.t 11, .k 1]), (true, .o 13 (.bin .rem 0) [.t 9, .t 12]), (false, .m 14 1), (false, .f 15 0 2), (false, .l 16 15), (false, .o 17 (.bin .add 0) [.t 16, .k 1]), (true, .o 18 (.bin .quo 0) [.t 14, .t 17]), (false, .m 6 13), (false, .m 7 18)]) <| .base (Ao)
theorem MT : gX Tryz.prog EV 59 [.c 4 true 4, .t 5] Fy := ⟨Tryz.f238, _, Tryz.func238, rfl, by kernel_rfl, by kernel_rfl, by kernel_rfl, by kernel_rfl⟩
@[simp] abbrev JS : Nat := 60
abbrev E7 : Plan := .take (.o 41 (.iadr 1) [.t 37, .t 38]) <| .al (.s (.store 1) [.t 41, .t 40]) ( .done)
def Ca : ACode := .seq (.reg [.o 32 (.bin .lss 0) [.t 31, .t 30]]) <| .seq (.cond (.t 32) ( .skip) ( .exit 0)) <| .seq (.block 1 ( .seq (.reg [.m 33 31, .o 34 (.iadr 1) [.t 29, .t 31], .l 35 34, .m 4 33, .m 5 35]) <| .draw ( .take (.f 36 5 3) <| .take (.m 38 4) <| .take (.m 39 5) <| .alt (.l 37 36) ( .al (.o 40 (.call 126 []) [.t 39]) E7) <| .al (.o 40 (.call 126 []) [.t 39]) ( .al (.l 37 36) E7)))) <| .reg [.o 42 (.bin .add 0) [.t 31, .k 1], .m 31 42]
def Gm : ACode := .seq (.seq (.reg [.f 28 5 1, .l 29 28, .n 30 29, .o 31 .mv [.k 0]]) <| .block 0 ( .loop [(29, 1)] [2, 3, 29, 30, 31] Ca)) <| .seq (.reg [.la 43 6 3, .s (.store 6) [.t 2, .t 43]]) <| .ret
abbrev DD : Plan := .take (.o 27 (.build bz [(0, 3), (3, 1), (4, 1), (5, 1)]) [.t 16, .t 19, .t 22, .t 26]) <| .al (.s (.store 6) [.t 3, .t 27]) ( .done)
abbrev Bv : Plan := .al (.o 22 (.call 126 []) [.t 21]) DD
abbrev DE : Plan := .alt (.o 22 (.call 126 []) [.t 21]) ( .take (.o 27 (.build bz [(0, 3), (3, 1), (4, 1), (5, 1)]) [.t 16, .t 19, .t 22, .t 26]) <| .al (.o 3 (.alloc bz) []) ( .al (.s (.store 6) [.t 3, .t 27]) ( .done))) <| .al (.o 3 (.alloc bz) []) Bv
abbrev DF : Plan := .alt (.o 22 (.call 126 []) [.t 21]) ( .al (.o 26 (.mksl 1 24 (.os 1 [])) [.t 25, .t 25]) DD) <| .al (.o 26 (.mksl 1 24 (.os 1 [])) [.t 25, .t 25]) Bv
abbrev Bw : Plan := .al (.o 19 (.call 126 []) [.t 18]) Bv
abbrev FY : Plan := .al (.o 15 (.call 125 []) [.t 14]) ( .take (.o 16 (.build rz [(0, 1), (1, 1), (2, 1)]) [.t 8, .t 11, .t 15]) <| .al (.o 19 (.call 126 []) [.t 18]) Bv)
def G6 : BCode := .seq (.base (.reg [.o 1 .box [.t 0], .o 2 (.alloc bz) []])) <| .frz 1 <| .seq (.early [.f 6 0 1, .f 7 0 6, .l 8 7, .f 9 0 1, .f 10 1 9, .l 11 10, .f 12 0 1, .f 13 2 12, .l 14 13, .f 17 3 1, .l 18 17, .f 20 4 1, .l 21 20, .f 23 5 1, .l 24 23, .n 25 24] ( .alt (.o 15 (.call 125 []) [.t 14]) ( .take (.o 16 (.build rz [(0, 1), (1, 1), (2, 1)]) [.t 8, .t 11, .t 15]) <| .alt (.o 19 (.call 126 []) [.t 18]) ( .alt (.o 22 (.call 126 []) [.t 21]) ( .alt (.o 26 (.mksl 1 24 (.os 1 [])) [.t 25, .t 25]) ( .take (.o 27 (.build bz [(0, 3), (3, 1), (4, 1), (5, 1)]) [.t 16, .t 19, .t 22, .t 26]) <| .al (.o 3 (.alloc bz) []) ( .al (.s (.store 6) [.t 3, .t 27]) ( .done))) <| .al (.o 3 (.alloc bz) []) ( .al (.o 26 (.mksl 1 24 (.os 1 [])) [.t 25, .t 25]) DD)) <| .alt (.o 26 (.mksl 1 24 (.os 1 [])) [.t 25, .t 25]) DE <| .al (.o 3 (.alloc bz) []) DF) <| .alt (.o 26 (.mksl 1 24 (.os 1 [])) [.t 25, .t 25]) ( .alt (.o 19 (.call 126 []) [.t 18]) DE <| .al (.o 3 (.alloc bz) []) Bw) <| .al (.o 3 (.alloc bz) []) ( .alt (.o 19 (.call 126 []) [.t 18]) DF <| .al (.o 26 (.mksl 1 24 (.os 1 [])) [.t 25, .t 25]) Bw)) <| .alt (.o 26 (.mksl 1 24 (.os 1 [])) [.t 25, .t 25]) ( .alt (.o 15 (.call 125 []) [.t 14]) ( .take (.o 16 (.build rz [(0, 1), (1, 1), (2, 1)]) [.t 8, .t 11, .t 15]) <| .alt (.o 19 (.call 126 []) [.t 18]) DE <| .al (.o 3 (.alloc bz) []) Bw) <| .al (.o 3 (.alloc bz) []) FY) <| .al (.o 3 (.alloc bz) []) ( .alt (.o 15 (.call 125 []) [.t 14]) ( .take (.o 16 (.build rz [(0, 1), (1, 1), (2, 1)]) [.t 8, .t 11, .t 15]) <| .alt (.o 19 (.call 126 []) [.t 18]) DF <| .al (.o 26 (.mksl 1 24 (.os 1 [])) [.t 25, .t 25]) Bw) <| .al (.o 26 (.mksl 1 24 (.os 1 [])) [.t 25, .t 25]) FY))) <| .base (.gc [] [1, 2, 3] Gm)
theorem P2 : gX Tryz.prog JS 44 [.c 2 true 6] G6 := ⟨Tryz.f60, _, Tryz.func60, rfl, by kernel_rfl, by kernel_rfl, by kernel_rfl, by kernel_rfl⟩
def arV (a b c d : Int) : AV := .agg [.v (.int .i64 a), .v (.int .i64 b), .v (.int .i64 c), .v (.int .i64 d)]
def arR (W T c : Int) : AV := if Uc W T c = true then .tup [arV (swI W c) (swI W c + 1) (swI W c + W) (swI W c + W + 1), .v (.bool true)] else .tup [arV 0 0 0 0, .v (.bool false)]
theorem G7 (W T : Int) (cs : List Bool) (c : Int) (hr : Az W T cs = true) (h1 : c ≤ 9223372036854775807) :
  SoundAt Tryz.prog EV [.agg [.v (.int .i64 W), .v (.int .i64 T), .sl 1 1 (AC cs)], .v (.int .i64 c)] (arR W T c) [.bot, .bot] := by
 obtain ⟨w1, w2, t1, t2, l1, _⟩ := CK hr
 have h36 := AZ hr
 have w0 : 1 ≤ W + 1 := by omega
 by_cases h0 : 0 ≤ c
 case neg =>
  have hm : Uc W T c = false := by simp [Uc]; omega
  have hc : c < 0 := by omega
  refine XB (md := md0) (ms := [false, false]) MT (by simp) ?_
  simp [Fy]
  refine ⟨by omega, ?_⟩
  refine Y7 (.inr rfl) ?_
  simp [dU, w0]
  refine ⟨by omega, ?_⟩
  refine Y7 (.inl rfl) ?_
  simp [dU, w0, Ao, hc, arR, hm, arV]
 have m1 := Int.emod_nonneg c (show W + 1 ≠ 0 by omega)
 have m2 := Int.emod_lt_of_pos c (show 0 < W + 1 by omega)
 have m3 := Int.ediv_nonneg h0 (show 0 ≤ W + 1 by omega)
 have m4 := Int.ediv_le_self (W + 1) h0
 refine AE (md := md0) (ms := [false, false]) M8 (by simp) ?_
 have hsw := @YW W T c w1
 have hsd : swI W c = (c / (W + 1) - 1) * W + c % (W + 1) - 1 := rfl
 have hc : ¬ c < 0 := by omega
 by_cases hx : 1 ≤ c % (W + 1) ∧ c % (W + 1) ≤ W - 1
 case neg =>
  have hm : Uc W T c = false := by simp [Uc]; omega
  simp [Co, h0, w0]
  (repeat' first | omega | apply And.intro) <;>
  ·simp [Ao, hc]
   refine ⟨by omega, ?_⟩
   refine AA (Dw (x := c % (W + 1)) (lo := 1) (hi := W - 1) hx) ?_
   simp [arR, hm, arV]
 by_cases hy : 1 ≤ c / (W + 1) ∧ c / (W + 1) ≤ T - 1
 case neg =>
  have hm : Uc W T c = false := by simp [Uc]; omega
  simp [Co, h0, w0]
  (repeat' first | omega | apply And.intro) <;>
  ·simp [Ao, hc]
   refine ⟨by omega, ?_⟩
   refine AA (A7 (x := c % (W + 1)) (lo := 1) (hi := W - 1) hx) ?_
   simp
   refine ⟨by omega, ?_⟩
   refine AA (Dw (x := c / (W + 1)) (lo := 1) (hi := T - 1) hy) ?_
   simp [arR, hm, arV]
 have hm : Uc W T c = true := by simp [Uc]; omega
 have hs := hsw hm
 have hz : swI W c = (c / (W + 1) - 1) * W + c % (W + 1) - 1 := hsd
 rw [hz] at hs
 simp [Co, h0, w0]
 (repeat' first | omega | apply And.intro) <;>
 ·simp [Ao, hc]
  refine ⟨by omega, ?_⟩
  refine AA (A7 (x := c % (W + 1)) (lo := 1) (hi := W - 1) hx) ?_
  simp
  refine ⟨by omega, ?_⟩
  refine AA (A7 (x := c / (W + 1)) (lo := 1) (hi := T - 1) hy) ?_
  simp [arR, hm, arV, hz]
  generalize (c / (W + 1) - 1) * W = z at *
  (repeat' first | omega | rfl | apply And.intro)
@[simp] theorem dm {P : Program} {md : Nat → List Bool} {K : ES → AH → Prop} {E : ES} {H : AH} {dst : Option Nat} {k : AK} {xs : List Opd} {s : Nat} {w : Bool} {os : List AOper} {p : Plan} :
  HA P md (⟨dst, k, xs, some (s, w)⟩ :: os) p K E H = (W9 ⟨dst, k, xs, some (s, w)⟩ E ∧ Fl P md ⟨dst, k, xs, some (s, w)⟩ s w (HA P md os p K) E H (get E s)) := (rfl)
set_option maxHeartbeats 4000000 in
theorem Kq (W T : Int) (cs : List Bool) (ls : List Int) (c : Int) (hr : Az W T cs = true) (hl : ls.length = cs.length) (h1 : c ≤ 9223372036854775807) :
  SoundAt Tryz.prog FX [.agg [.v (.int .i64 W), .v (.int .i64 T), .sl 1 1 (AC cs)], .sl 1 1 (AB ls), .v (.int .i64 c)]
   (.tup [.v (.bool (Uc W T c && Qn W ls c)), .v (.bool (Uc W T c && upB W ls c))]) [.bot, .bot, .bot] := by
 obtain ⟨w1, w2, t1, t2, l1, _⟩ := CK hr
 have h36 := AZ hr
 have ar := G7 W T cs c hr h1
 refine XB (md := md0) (ms := [false, false, false]) Ko (by simp) ?_
 simp [Ei]
 refine AA ar ?_
 cases hm : Uc W T c with
 | false => simp [arR, hm, arV]
 | true =>
   have hs := YW w1 hm
   have q0 := hs.1
   have q1 : swI W c < ls.length := by omega
   have q2 : 0 ≤ swI W c + W := by omega
   have q3 : swI W c + W < ls.length := by omega
   have q4 : 0 ≤ swI W c + 1 := by omega
   have q5 : swI W c + 1 < ls.length := by omega
   simp [arR, hm, arV]
   refine XC rfl rfl rfl ?_
   unfold Qn upB
   by_cases e1 : ati ls (swI W c) = 1
   ·have e2 : ¬ ati ls (swI W c) = 2 := by omega
    simp [q0, q1, q2, q3, q4, q5, e1, e2]
    by_cases e3 : ati ls (swI W c + W) = 1 <;> simp [e3]
   ·by_cases e2 : ati ls (swI W c) = 2
    ·simp [q0, q1, q2, q3, q4, q5, e1, e2]
     by_cases e3 : ati ls (swI W c + 1) = 2 <;> simp [e3]
    ·simp [q0, q1, q2, q3, q4, q5, e1, e2]
set_option maxHeartbeats 4000000 in
theorem P3 (W T : Int) (cs : List Bool) (ls : List Int) (c : Int) (hr : Az W T cs = true) (hl : ls.length = cs.length) (h1 : c ≤ 9223372036854775807) :
  SoundAt Tryz.prog JR [.agg [.v (.int .i64 W), .v (.int .i64 T), .sl 1 1 (AC cs)], .sl 1 1 (AB ls), .v (.int .i64 c)]
   (.tup [.os 1 (AB (Gu W T ls c)), .v (.bool (Fk W T ls c))]) [.bot, .bot, .bot] := by
 obtain ⟨w1, w2, t1, t2, l1, _⟩ := CK hr
 have h36 := AZ hr
 have ar := G7 W T cs c hr h1
 have fl := Kq W T cs ls c hr hl h1
 refine XB (md := md0) (ms := [false, false, false]) P1 (by simp) ?_
 simp [G5]
 refine AA (Ag ls (by omega)) ?_
 simp
 refine AA fl ?_
 simp
 refine AA ar ?_
 have htl : (AB ls).take ls.length = AB ls := AD ls
 cases hm : Uc W T c with
 | false =>
   have e : Gu W T ls c = ls := by simp [Gu, Fk, hm]
   have e2 : Fk W T ls c = false := by simp [Fk, hm]
   simp [arR, hm, arV, e, e2]
   refine XC rfl rfl rfl ?_
   simp [htl]
 | true =>
   have hs := YW w1 hm
   have hW2 : 2 ≤ W := by
    obtain ⟨x, y, x0, x1, _⟩ := XX w1 hm
    omega
   have q0 := hs.1
   have q1 : swI W c < ls.length := by omega
   have q2 : 0 ≤ swI W c + W := by omega
   have q3 : swI W c + W < ls.length := by omega
   have q4 : 0 ≤ swI W c + 1 := by omega
   have q5 : swI W c + 1 < ls.length := by omega
   have q6 : 0 ≤ swI W c + W + 1 := by omega
   have q7 : swI W c + W + 1 < ls.length := by omega
   simp [arR, hm, arV]
   refine XC rfl rfl rfl ?_
   cases hF : Qn W ls c with
   | true =>
     have e2 : Fk W T ls c = true := by simp [Fk, hm, hF]
     have e : Gu W T ls c = Qo ls (swI W c) W 2 2 4 4 := by unfold Gu; rw [if_pos e2, if_pos hF]
     have ht : (AB (Qo ls (swI W c) W 2 2 4 4)).take ls.length = AB (Qo ls (swI W c) W 2 2 4 4) := List.take_of_length_le (by simp [DC])
     have hlen := DC ls (swI W c) W 2 2 4 4
     rw [e, e2]
     unfold Qo at *
     simp [q0, q1, q2, q3, q4, q5, q6, q7, EA, ht]
   | false =>
     cases hU : upB W ls c with
     | true =>
       have e2 : Fk W T ls c = true := by simp [Fk, hm, hU]
       have e : Gu W T ls c = Qo ls (swI W c) W 1 3 1 3 := by unfold Gu; rw [if_pos e2, if_neg (by rw [hF]; decide)]
       have ht : (AB (Qo ls (swI W c) W 1 3 1 3)).take ls.length = AB (Qo ls (swI W c) W 1 3 1 3) := List.take_of_length_le (by simp [DC])
       rw [e, e2]
       unfold Qo at *
       simp [q0, q1, q2, q3, q4, q5, q6, q7, EA, ht]
     | false =>
       have e2 : Fk W T ls c = false := by simp [Fk, hF, hU]
       have e : Gu W T ls c = ls := by simp [Gu, e2]
       rw [e, e2]
       simp [htl]
theorem Uf (W T : Int) (cs : List Bool) (ls : List Int) (k : Nat) (hr : Az W T cs = true) (hy : AO W T cs ls = true) (hk : k < ls.length) :
  SoundAt Tryz.prog GQ [.agg [.v (.int .i64 W), .v (.int .i64 T), .sl 1 1 (AC cs)], .sl 1 1 (AB ls), .v (.int .i64 k)]
   (if ati ls k = 0 then .tup [.os 1 (AB ls), .v (.bool false)] else .tup [.os 1 (AB (Kl W T ls k)), .v (.bool true)]) [.bot, .bot, .bot] := by
 refine AE (md := md5) (ms := [false, false, false]) Nh (by simp) ?_
 have h36 := AZ hr
 have hl := An hy
 simp [Jg]
 refine AA (BV W T cs ls (by omega) (by omega)) ?_
 simp [hr, hy]
 refine ⟨by omega, by omega, ?_⟩
 refine AA (C4 (x := k) (lo := 0) (hi := (ls.length : Int) - 1) (by omega)) ?_
 by_cases hz : ati ls k = 0
 ·simp [hk, hz]
 obtain ⟨t, e, ht, htk, _⟩ := WO hr hy hk hz
 have eL : Kl W T ls k = (ls.set t 0).set k 0 := by unfold Kl; rw [e]; simp
 rw [eL]
 have one := HE W T cs k (ati ls k) hr (by omega) (by omega)
 rw [e] at one
 simp [hk, hz]
 (repeat' first | assumption | omega | apply And.intro) <;>
 ·refine AA one ?_
  have htk2 : (AB ((ls.set t 0).set k 0)).take ls.length = AB ((ls.set t 0).set k 0) := List.take_of_length_le (by simp)
  simp [ht, hk, EA, KG, htk2]
theorem g9 {us : List Value} (h : ∀ u ∈ us, u.oneCell' = true) : okL (Jl us) = true := by
 induction us with
 | nil => simp [Jl]
 | cons u us ih =>
   have h1 := h u (by simp)
   have h2 := ih fun x hx => h x (by simp [hx])
   show (okE (.v u) && okL (Jl us)) = true
   rw [h2, Bool.and_true]
   exact h1
@[simp] theorem lN (us : List Value) : (Jl us).take us.length = Jl us := List.take_of_length_le (by simp)
theorem M9 (us : List Value) (hn : us.length < 2 ^ 40) (h1 : ∀ u ∈ us, u.oneCell' = true) :
  SoundAt Tryz.prog Ep [.sl 0 1 (Jl us)] (.os 1 (Jl us)) [.bot] := by
 refine AE (md := md3) (ms := [false]) OK (by simp) ?_
 simp [Hx]
 simp [g9 h1]
 refine ⟨fun _ => by omega, fun e => ⟨by omega, by rw [e]; rfl⟩⟩
theorem Qq (us : List Value) : SoundAt Tryz.prog FV [.os 1 (Jl us)] (.os 1 (Jl us)) [.bot] := by
 refine AE (md := md3) (ms := [false]) JM (by simp) ?_
 simp [FW]
theorem dn (us : List Value) : noVL (Jl us) = true := by
 induction us with
 | nil => rfl
 | cons u us ih => show (noV (.v u) && noVL (Jl us)) = true; rw [ih]; rfl
theorem P4 (us : List Value) (hn : us.length < 2 ^ 40) (h1 : ∀ u ∈ us, u.oneCell' = true) :
  SoundAt Tryz.prog Ep [.sl 1 1 (Jl us)] (.os 1 (Jl us)) [.bot] := by
 refine SoundAt.lift (n := 1) (fun C S us hr => noOL_ok _ S us rfl hr) (by simp [noV, dn]) ?_
 have := M9 us hn h1
 simpa [vwL, vw, TH] using this
theorem Ro (us : List Value) (hn : us.length < 2 ^ 40) (h1 : ∀ u ∈ us, u.oneCell' = true) :
  SoundAt Tryz.prog J5 [.sl 1 1 (Jl us)] (.os 1 (Jl us)) [.bot] := by
 refine AE (md := md3) (ms := [false]) Qm (by simp) ?_
 simp [J6]
 refine AA (P4 us hn h1) ?_
 simp [TH]
 refine AA (Qq us) ?_
 simp
def WS (d : Int × Int × Int) : Bool :=
 if d.1 = 0 then true else if d.1 = 1 ∨ d.1 = 2 then decide (d.2.2 = 0) else if d.1 = 3 ∨ d.1 = 4 then decide (d.2.1 = 0 ∧ d.2.2 = 0) else false
theorem Qr (d : Int × Int × Int) : SoundAt Tryz.prog GK [A8 d] (.v (.bool (WS d))) [.bot] := by
 obtain ⟨k, s, w⟩ := d
 refine AE (md := md3) (ms := [false]) KK (by simp [A8]) ?_
 by_cases h0 : k = 0 <;> by_cases h1 : k = 1 <;> by_cases h2 : k = 2 <;> by_cases h3 : k = 3 <;> by_cases h4 : k = 4 <;> by_cases hs : s = 0 <;> by_cases hw : w = 0 <;> first | (exfalso; omega) | (simp [GL, A8, WS, h0, h1, h2, h3, h4, hs, hw])
theorem TT (d : Int × Int × Int) : SoundAt Tryz.prog IG [A8 d] (.v (.bool (WS d))) [.bot] := by
 obtain ⟨k, s, w⟩ := d
 refine AE (md := md3) (ms := [false]) MR (by simp [A8]) ?_
 by_cases h0 : k = 0 <;> by_cases h1 : k = 1 <;> by_cases h2 : k = 2 <;> by_cases h3 : k = 3 <;> by_cases h4 : k = 4 <;> by_cases hs : s = 0 <;> by_cases hw : w = 0 <;> first | (exfalso; omega) | (simp [IH, A8, WS, h0, h1, h2, h3, h4, hs, hw])
theorem SoundAt.none0 {P : Program} {f n : Nat} {avs : List AV} {x : Value} (h : SoundAt P f avs (.tup [.os 1 [], .v x]) (List.replicate n .bot)) : SoundAt P f avs (.tup [.sl 0 1 [], .v x]) (List.replicate n .bot) := by
 intro w forb us S hr hnd hsz hforb
 refine Calls.mono (h w forb us S hr hnd hsz hforb) ?_
 rintro e w' ⟨v, S', he, hv, hnd', hmem, hk⟩
 rw [RL] at hv
 obtain ⟨S1, S2, u, us', rfl, hu, h1, h2⟩ := hv
 cases hu
 obtain ⟨rfl, h4⟩ := X2 n h2
 refine ⟨v, [], he, ?_, List.nodup_nil, by simp, hk⟩
 rw [RL]
 refine ⟨[], [], v, us, rfl, rfl, ?_, h4 _⟩
 rw [R] at h1 ⊢
 obtain ⟨vs, hvs, h1⟩ := h1
 refine ⟨vs, hvs, ?_⟩
 rw [RL] at h1 ⊢
 obtain ⟨A1, A2, u1, us1, _, rfl, a1, a2⟩ := h1
 rw [RL] at a2
 obtain ⟨A3, A4, u2, us2, _, rfl, a3, a4⟩ := a2
 rw [RL] at a4
 obtain ⟨_, rfl⟩ := a4
 refine ⟨[], [], u1, [u2], rfl, rfl, ?_, ?_⟩
 ·rw [R] at a1
  obtain ⟨a, cap, h5, h6, _⟩ := a1
  show R (Wl w' [] forb) (.sl 0 1 []) [] u1
  rw [R]
  exact ⟨rfl, a, cap, h5, h6, .inl rfl⟩
 ·rw [RL]
  refine ⟨[], [], u2, [], rfl, rfl, ?_, by rw [RL]; exact ⟨rfl, rfl⟩⟩
  rw [R] at a3
  rw [R]
  exact ⟨rfl, a3.2⟩
def Wb (W T : Int) (cs : List Bool) (ds ls : List Int) : List Int := (BL W T cs ds ls).getD []
def Zs (W T : Int) (cs : List Bool) (ds ls : List Int) : Bool := (BL W T cs ds ls).isSome
theorem P5 (W T : Int) (cs : List Bool) (ds ls : List Int) (hb : cs.length < 2 ^ 40) (hd : ds.length < 2 ^ 40) (hl : ls.length < 2 ^ 40) :
  SoundAt Tryz.prog GI [.agg [.v (.int .i64 W), .v (.int .i64 T), .sl 1 1 (AC cs)], .sl 1 1 (AB ds), .sl 1 1 (AB ls)] (.tup [.sl 0 1 (AB (Wb W T cs ds ls)), .v (.bool (Zs W T cs ds ls))]) [.bot, .bot, .bot] := by
 have h := KF W T cs ds ls hb hd hl
 cases hx : BL W T cs ds ls with
 | none =>
   rw [hx] at h
   simp only [Wb, Zs, hx]
   exact SoundAt.none0 (n := 3) h
 | some x =>
   rw [hx] at h
   simp only [Wb, Zs, hx]
   exact h
end Go.Proofs.Dev
