/- Contracts of the functions of the program over slots and rows, each proved against the program itself; no condition beyond those that each theorem names. -/
import Derived.Test.YtakaenhgbkbegaaGreatAL
import Derived.Test.YtakaenhgbkbegaaGreatProg
import Derived.Test.YtakaenhgbkbegaaGreatAH

set_option linter.unusedSimpArgs false
set_option linter.unusedVariables false

namespace Go.Proofs.Dev

-- 1 parameters, results [.t 2], 35 slots, modes [false]
@[simp] abbrev n_spec_BookValid : Nat := 46
def c_spec_BookValid_L0 : ACode := .seq (.seq (.reg [.m 4 3, .f 5 5 1, .l 6 5, .o 7 (.len false) [.t 6], .o 8 (.bin .lss 0) [.t 4, .t 7]]) <|
 .cond (.t 8) ( .skip) ( .exit 0)) <| .seq (.block 1 ( .seq (.draw ( .take (.f 11 0 1) <| .take (.f 13 3 1) <| .take (.f 15 5 1) <| .take (.m 17 3) <|
 .alt (.o 12 (.load true 3) [.t 11]) ( .alt (.l 14 13) ( .al (.l 16 15) ( .take (.o 18 (.iadr 1) [.t 16, .t 17]) <|
 .al (.l 19 18) ( .al (.o 20 (.call 85 []) [.t 12, .t 14, .t 19]) ( .take (.o 21 (.un .not) [.t 20]) <| .done)))) <|
 .al (.l 16 15) ( .take (.o 18 (.iadr 1) [.t 16, .t 17]) <| .alt (.l 14 13) ( .al (.l 19 18) ( .al (.o 20 (.call 85 []) [.t 12, .t 14,
 .t 19]) ( .take (.o 21 (.un .not) [.t 20]) <| .done))) <| .al (.l 19 18) ( .al (.l 14 13) ( .al (.o 20 (.call 85 []) [.t 12, .t 14,
 .t 19]) ( .take (.o 21 (.un .not) [.t 20]) <| .done))))) <|
 .alt (.l 14 13) ( .alt (.o 12 (.load true 3) [.t 11]) ( .al (.l 16 15) ( .take (.o 18 (.iadr 1) [.t 16, .t 17]) <|
 .al (.l 19 18) ( .al (.o 20 (.call 85 []) [.t 12, .t 14, .t 19]) ( .take (.o 21 (.un .not) [.t 20]) <| .done)))) <|
 .al (.l 16 15) ( .take (.o 18 (.iadr 1) [.t 16, .t 17]) <| .alt (.o 12 (.load true 3) [.t 11]) ( .al (.l 19 18) ( .al (.o 20 (.call 85 []) [.t 12, .t 14,
 .t 19]) ( .take (.o 21 (.un .not) [.t 20]) <| .done))) <| .al (.l 19 18) ( .al (.o 12 (.load true 3) [.t 11]) ( .al (.o 20 (.call 85 []) [.t 12, .t 14,
 .t 19]) ( .take (.o 21 (.un .not) [.t 20]) <| .done))))) <| .al (.l 16 15) ( .take (.o 18 (.iadr 1) [.t 16, .t 17]) <|
 .alt (.o 12 (.load true 3) [.t 11]) ( .alt (.l 14 13) ( .al (.l 19 18) ( .al (.o 20 (.call 85 []) [.t 12, .t 14, .t 19]) ( .take (.o 21 (.un .not) [.t 20]) <|
 .done))) <| .al (.l 19 18) ( .al (.l 14 13) ( .al (.o 20 (.call 85 []) [.t 12, .t 14, .t 19]) ( .take (.o 21 (.un .not) [.t 20]) <| .done)))) <|
 .alt (.l 14 13) ( .alt (.o 12 (.load true 3) [.t 11]) ( .al (.l 19 18) ( .al (.o 20 (.call 85 []) [.t 12, .t 14, .t 19]) ( .take (.o 21 (.un .not) [.t 20]) <|
 .done))) <| .al (.l 19 18) ( .al (.o 12 (.load true 3) [.t 11]) ( .al (.o 20 (.call 85 []) [.t 12, .t 14, .t 19]) ( .take (.o 21 (.un .not) [.t 20]) <|
 .done)))) <| .al (.l 19 18) ( .alt (.o 12 (.load true 3) [.t 11]) ( .al (.l 14 13) ( .al (.o 20 (.call 85 []) [.t 12, .t 14,
 .t 19]) ( .take (.o 21 (.un .not) [.t 20]) <| .done))) <| .al (.l 14 13) ( .al (.o 12 (.load true 3) [.t 11]) ( .al (.o 20 (.call 85 []) [.t 12, .t 14,
 .t 19]) ( .take (.o 21 (.un .not) [.t 20]) <| .done))))))) <| .cond (.t 21) ( .seq (.reg [.o 2 .mv [.c (.v (.bool false))]]) <| .ret) ( .skip))) <|
 .reg [.m 9 3, .o 10 (.bin .add 0) [.t 9, .k 1], .m 3 10]

def c_spec_BookValid : ACode := .seq (.reg [.o 1 .box [.t 0], .o 2 .mv [.c (.v (.bool false))]]) <| .seq (.seq (.reg [.o 3 .mv [.k 0]]) <|
 .block 0 ( .loop [] [1, 3] c_spec_BookValid_L0)) <| .seq (.reg [.f 22 0 1, .o 23 (.load true 3) [.t 22], .f 24 3 1, .l 25 24, .f 26 4 1, .l 27 26,
 .o 28 (.call 85 []) [.t 23, .t 25, .t 27], .m 29 28, .g 30 (.fadr 5) [.t 1] 29 true, .g 31 (.load false 1) [.t 30] 29 true, .g 32 (.len false) [.t 31] 29 true,
 .g 33 (.bin .leq 0) [.t 32, .k 20] 29 true, .o 34 .pick [.t 29, .t 33, .c (.v (.bool false))], .m 2 34]) <| .ret

theorem k_spec_BookValid : cFn Tryz.prog n_spec_BookValid 35 [.t 2] c_spec_BookValid := ⟨Tryz.f46, _, Tryz.func46, rfl, by kernel_rfl, by kernel_rfl, by kernel_rfl, by kernel_rfl⟩

-- 1 parameters, results [.t 3], 11 slots, modes [false]
@[simp] abbrev n_impl_BookValid_1 : Nat := 67

def c_impl_BookValid_1 : ACode := .seq (.reg [.o 3 .mv [.c (.v (.bool false))]]) <| .seq (.reg [.f 4 0 1, .o 5 (.load true 3) [.t 4], .f 6 3 1, .l 7 6, .m 8 0,
 .o 9 (.call 47 []) [.t 5, .t 7, .t 8], .o 10 (.un .not) [.t 9], .m 3 10]) <| .ret

theorem k_impl_BookValid_1 : cFn Tryz.prog n_impl_BookValid_1 11 [.t 3] c_impl_BookValid_1 := ⟨Tryz.f67, _, Tryz.func67, rfl, by kernel_rfl, by kernel_rfl, by kernel_rfl, by kernel_rfl⟩

-- 2 parameters, results [.t 4], 19 slots, modes [false, false]
@[simp] abbrev n_slices_IndexFunc_int_int : Nat := 126
def c_slices_IndexFunc_int_int_L0 : ACode := .seq (.reg [.o 9 (.bin .lss 0) [.t 8, .t 7]]) <| .seq (.cond (.t 9) ( .skip) ( .exit 0)) <|
 .seq (.block 1 ( .seq (.reg [.m 10 8, .m 5 10]) <| .seq (.reg [.m 11 1, .m 12 0, .m 13 5, .o 14 (.iadr 1) [.t 12, .t 13], .l 15 14, .o 16 (.callv []) [.t 11,
 .t 15]]) <| .cond (.t 16) ( .seq (.reg [.m 17 5, .m 4 17]) <| .ret) ( .skip))) <| .reg [.o 18 (.bin .add 0) [.t 8, .k 1], .m 8 18]

def c_slices_IndexFunc_int_int : ACode := .seq (.reg [.o 4 .mv [.k 0]]) <| .seq (.seq (.reg [.m 6 0, .o 7 (.len false) [.t 6], .o 8 .mv [.k 0]]) <|
 .block 0 ( .loop [(0, 1)] [0, 1, 7, 8] c_slices_IndexFunc_int_int_L0)) <| .seq (.reg [.o 4 .mv [.k (-1)]]) <| .ret

theorem k_slices_IndexFunc_int_int : cFn Tryz.prog n_slices_IndexFunc_int_int 19 [.t 4] c_slices_IndexFunc_int_int := ⟨Tryz.f126, _, Tryz.func126, rfl, by kernel_rfl, by kernel_rfl, by kernel_rfl, by kernel_rfl⟩

-- 2 parameters, results [.t 4], 9 slots, modes [false, false]
@[simp] abbrev n_slices_ContainsFunc_int_int : Nat := 66

def c_slices_ContainsFunc_int_int : ACode := .seq (.reg [.o 4 .mv [.c (.v (.bool false))]]) <| .seq (.reg [.m 5 0, .m 6 1, .o 7 (.call 126 []) [.t 5, .t 6],
 .o 8 (.bin .geq 0) [.t 7, .k 0], .m 4 8]) <| .ret

theorem k_slices_ContainsFunc_int_int : cFn Tryz.prog n_slices_ContainsFunc_int_int 9 [.t 4] c_slices_ContainsFunc_int_int := ⟨Tryz.f66, _, Tryz.func66, rfl, by kernel_rfl, by kernel_rfl, by kernel_rfl, by kernel_rfl⟩

-- 1 parameters, results [.t 2], 23 slots, modes [false]
@[simp] abbrev n_impl_BookValid : Nat := 19

def c_impl_BookValid : ACode := .seq (.reg [.o 1 .box [.t 0], .o 2 .mv [.c (.v (.bool false))]]) <| .seq (.reg [.f 3 0 1, .o 4 (.load true 3) [.t 3], .f 5 3 1,
 .l 6 5, .f 7 4 1, .l 8 7, .o 9 (.call 47 []) [.t 4, .t 6, .t 8], .m 10 9, .g 11 (.fadr 5) [.t 1] 10 true, .g 12 (.load false 1) [.t 11] 10 true,
 .g 13 (.len false) [.t 12] 10 true, .g 14 (.bin .leq 0) [.t 13, .k 20] 10 true, .o 15 .pick [.t 10, .t 14, .c (.v (.bool false))], .m 16 15,
 .g 17 (.fadr 5) [.t 1] 16 true, .g 18 (.load false 1) [.t 17] 16 true, .g 19 (.mkfn 67) [.t 1] 16 true, .g 20 (.call 66 []) [.t 18, .t 19] 16 true,
 .g 21 (.un .not) [.t 20] 16 true, .o 22 .pick [.t 16, .t 21, .c (.v (.bool false))], .m 2 22]) <| .ret

theorem k_impl_BookValid : cFn Tryz.prog n_impl_BookValid 23 [.t 2] c_impl_BookValid := ⟨Tryz.f19, _, Tryz.func19, rfl, by kernel_rfl, by kernel_rfl, by kernel_rfl, by kernel_rfl⟩

-- 1 parameters, results [.t 2], 14 slots, modes [false]
@[simp] abbrev n_spec_BookSolved : Nat := 34

def c_spec_BookSolved : ACode := .seq (.reg [.o 1 .box [.t 0], .o 2 .mv [.c (.v (.bool false))]]) <| .seq (.reg [.o 3 (.load true 6) [.t 1],
 .o 4 (.call 46 []) [.t 3], .m 5 4, .g 6 (.fadr 0) [.t 1] 5 true, .g 7 (.load true 3) [.t 6] 5 true, .g 8 (.fadr 3) [.t 1] 5 true,
 .g 9 (.load false 1) [.t 8] 5 true, .g 10 (.fadr 4) [.t 1] 5 true, .g 11 (.load false 1) [.t 10] 5 true, .g 12 (.call 99 []) [.t 7, .t 9, .t 11] 5 true,
 .o 13 .pick [.t 5, .t 12, .c (.v (.bool false))], .m 2 13]) <| .ret

theorem k_spec_BookSolved : cFn Tryz.prog n_spec_BookSolved 14 [.t 2] c_spec_BookSolved := ⟨Tryz.f34, _, Tryz.func34, rfl, by kernel_rfl, by kernel_rfl, by kernel_rfl, by kernel_rfl⟩

-- 1 parameters, results [.t 2], 12 slots, modes [false]
@[simp] abbrev n_impl_BookSolved : Nat := 24

def c_impl_BookSolved : ACode := .seq (.reg [.o 1 .box [.t 0], .o 2 .mv [.c (.v (.bool false))]]) <| .seq (.reg [.o 3 (.load true 6) [.t 1],
 .o 4 (.call 19 []) [.t 3], .m 5 4, .g 6 (.fadr 0) [.t 1] 5 true, .g 7 (.load true 3) [.t 6] 5 true, .g 8 (.fadr 4) [.t 1] 5 true,
 .g 9 (.load false 1) [.t 8] 5 true, .g 10 (.call 74 []) [.t 7, .t 9] 5 true, .o 11 .pick [.t 5, .t 10, .c (.v (.bool false))], .m 2 11]) <| .ret

theorem k_impl_BookSolved : cFn Tryz.prog n_impl_BookSolved 12 [.t 2] c_impl_BookSolved := ⟨Tryz.f24, _, Tryz.func24, rfl, by kernel_rfl, by kernel_rfl, by kernel_rfl, by kernel_rfl⟩

end Go.Proofs.Dev

namespace Go.Proofs.Dev
set_option linter.unusedSimpArgs false
set_option maxRecDepth 100000

/-- Lists of numbers, as elements of a row: read alone, and owned. -/
def sls (c : Nat) (ps : List (List Int)) : List AV := ps.map fun p => .sl c 1 (ints p)
def oss (ps : List (List Int)) : List AV := ps.map fun p => .os 1 (ints p)
def pti (ps : List (List Int)) (i : Int) : List Int := ps.getD i.toNat []

@[simp] theorem sls_length (c : Nat) (ps : List (List Int)) : (sls c ps).length = ps.length := by simp [sls]
@[simp] theorem oss_length (ps : List (List Int)) : (oss ps).length = ps.length := by simp [oss]
@[simp] theorem sls_nil (c : Nat) : sls c [] = [] := (rfl)
@[simp] theorem oss_nil : oss [] = [] := (rfl)
@[simp] theorem sls_eq_nil (c : Nat) (ps : List (List Int)) : (sls c ps = []) = (ps = []) := by cases ps <;> simp [sls]
@[simp] theorem oss_eq_nil (ps : List (List Int)) : (oss ps = []) = (ps = []) := by cases ps <;> simp [oss]
theorem oss_append (a b : List (List Int)) : oss (a ++ b) = oss a ++ oss b := by simp [oss]
theorem oss_one (a : List Int) : oss [a] = [.os 1 (ints a)] := (rfl)
@[simp] theorem iadr_sls_ite {c d : Nat} {k : IntKind} {ps : List (List Int)} {i : Int} : aiadr 1 (.sl c 1 (sls d ps)) (.v (.int k i)) = if 0 ≤ i ∧ i < ps.length then some (.vp c [.sl d 1 (ints (pti ps i))] 0) else none := by
  by_cases h : 0 ≤ i ∧ i < ps.length
  · rw [if_pos h]
    have h1 : i.toNat < ps.length := by omega
    simp [aiadr, h.1, sls, pti, h1]
  · rw [if_neg h]
    by_cases h0 : 0 ≤ i
    · have : ¬ i.toNat < ps.length := by omega
      simp [aiadr, h0, sls, this]
    · simp [aiadr, h0]
@[simp] theorem vwL_sls (c d : Nat) : ∀ ps : List (List Int), vwL c (sls d ps) = sls c ps
  | [] => rfl
  | p :: ps => by
    show vw c (.sl d 1 (ints p)) :: vwL c (sls d ps) = .sl c 1 (ints p) :: sls c ps
    rw [vwL_sls c d ps]; simp
@[simp] theorem vwL_oss (c : Nat) : ∀ ps : List (List Int), vwL c (oss ps) = sls c ps
  | [] => rfl
  | p :: ps => by
    show vw c (.os 1 (ints p)) :: vwL c (oss ps) = .sl c 1 (ints p) :: sls c ps
    rw [vwL_oss c ps]; simp
@[simp] theorem okL_sls (c : Nat) : ∀ ps : List (List Int), okL (sls c ps) = true
  | [] => rfl
  | p :: ps => by show (okE (.sl c 1 (ints p)) && okL (sls c ps)) = true; rw [okL_sls c ps]; simp
@[simp] theorem okL_oss : ∀ ps : List (List Int), okL (oss ps) = true
  | [] => rfl
  | p :: ps => by show (okE (.os 1 (ints p)) && okL (oss ps)) = true; rw [okL_oss ps]; simp
theorem take_oss (n : Nat) (ps : List (List Int)) : (oss ps).take n = oss (ps.take n) := by simp [oss]
@[simp] theorem take_oss_all (ps : List (List Int)) : (oss ps).take ps.length = oss ps := by rw [take_oss, List.take_length]
theorem pti_get {ps : List (List Int)} {i : Nat} (h : i < ps.length) : pti ps i = ps[i] := by
  unfold pti; rw [Int.toNat_natCast, List.getD_eq_getElem?_getD, List.getElem?_eq_getElem h]; rfl
theorem pti_mem {ps : List (List Int)} {i : Nat} (h : i < ps.length) : pti ps i ∈ ps := by rw [pti_get h]; exact List.getElem_mem h
/-- A book's argument, and a book that is owned. -/
@[simp] def bkA (W T : Int) (cs : List Bool) (ds ls : List Int) (ps : List (List Int)) : AV := .agg [.v (.int .i64 W), .v (.int .i64 T), .sl 1 1 (bools cs), .sl 1 1 (ints ds), .sl 1 1 (ints ls), .sl 1 1 (sls 1 ps)]
@[simp] def bkO (W T : Int) (cs : List Bool) (ds ls : List Int) (ps : List (List Int)) : AV := .agg [.v (.int .i64 W), .v (.int .i64 T), .os 1 (bools cs), .os 1 (ints ds), .os 1 (ints ls), .os 1 (oss ps)]

end Go.Proofs.Dev

namespace Go.Proofs.Dev
-- 1 parameters, results [.t 2], 8 slots, modes [false]
@[simp] abbrev n_slices_Clone_ints : Nat := 159

def c_slices_Clone_ints : ACode := .seq (.reg [.o 2 .mv [.c (.os 1 [])]]) <| .seq (.seq (.reg [.m 3 0, .o 4 (.nilq false) [.t 3]]) <|
 .cond (.t 4) ( .seq (.reg [.o 2 .mv [.c (.os 1 [])]]) <| .ret) ( .skip)) <| .seq (.reg [.o 5 (.bsl 1) [], .m 6 0, .o 7 (.app 1 24 false) [.t 5, .t 6],
 .m 2 7]) <| .ret

-- 1 parameters, results [.t 2], 6 slots, modes [false]
@[simp] abbrev n_impl_clone_ints : Nat := 124

def c_impl_clone_ints : ACode := .seq (.reg [.o 2 .mv [.c (.os 1 [])]]) <| .seq (.reg [.m 3 0, .o 4 (.call 159 []) [.t 3], .o 5 (.call 145 []) [.t 4],
 .m 2 5]) <| .ret

-- 2 parameters, results [.t 4, .t 5], 72 slots, modes [false, false]
@[simp] abbrev n_impl_Book_laidBy : Nat := 125

def c_impl_Book_laidBy : ACode := .seq (.reg [.o 3 .box [.t 1], .o 4 .mv [.c (.os 1 [])], .o 5 .mv [.c (.v (.bool false))]]) <| .seq (.reg [.m 8 0,
 .o 9 .nilck [.t 8], .f 10 0 9, .o 11 (.load true 3) [.t 10], .o 6 (.alloc [.v (.int .i64 (0)), .v (.int .i64 (0)), .os 1 []]) [], .s (.store 3) [.t 6,
 .t 11]]) <| .seq (.seq (.reg [.f 12 0 3, .l 13 12]) <| .block 0 ( .seq (.reg [.o 15 (.bin .eql 0) [.t 13, .k 0], .m 14 15]) <|
 .cond (.t 14) ( .seq (.draw ( .take (.m 17 0) <| .take (.o 18 .nilck [.t 17]) <| .take (.f 19 4 18) <| .take (.f 21 1 3) <| .take (.f 23 2 3) <|
 .alt (.o 16 (.load true 3) [.t 6]) ( .alt (.l 20 19) ( .alt (.l 22 21) ( .al (.l 24 23) ( .al (.o 25 (.call 160 []) [.t 16, .t 20, .t 22,
 .t 24]) ( .take (.e 26 0 25) <| .take (.e 27 1 25) <| .take (.m 4 26) <| .take (.m 5 27) <| .done))) <|
 .al (.l 24 23) ( .al (.l 22 21) ( .al (.o 25 (.call 160 []) [.t 16, .t 20, .t 22, .t 24]) ( .take (.e 26 0 25) <| .take (.e 27 1 25) <| .take (.m 4 26) <|
 .take (.m 5 27) <| .done)))) <| .alt (.l 22 21) ( .alt (.l 20 19) ( .al (.l 24 23) ( .al (.o 25 (.call 160 []) [.t 16, .t 20, .t 22,
 .t 24]) ( .take (.e 26 0 25) <| .take (.e 27 1 25) <| .take (.m 4 26) <| .take (.m 5 27) <| .done))) <|
 .al (.l 24 23) ( .al (.l 20 19) ( .al (.o 25 (.call 160 []) [.t 16, .t 20, .t 22, .t 24]) ( .take (.e 26 0 25) <| .take (.e 27 1 25) <| .take (.m 4 26) <|
 .take (.m 5 27) <| .done)))) <| .al (.l 24 23) ( .alt (.l 20 19) ( .al (.l 22 21) ( .al (.o 25 (.call 160 []) [.t 16, .t 20, .t 22,
 .t 24]) ( .take (.e 26 0 25) <| .take (.e 27 1 25) <| .take (.m 4 26) <| .take (.m 5 27) <| .done))) <|
 .al (.l 22 21) ( .al (.l 20 19) ( .al (.o 25 (.call 160 []) [.t 16, .t 20, .t 22, .t 24]) ( .take (.e 26 0 25) <| .take (.e 27 1 25) <| .take (.m 4 26) <|
 .take (.m 5 27) <| .done))))) <| .alt (.l 20 19) ( .alt (.o 16 (.load true 3) [.t 6]) ( .alt (.l 22 21) ( .al (.l 24 23) ( .al (.o 25 (.call 160 []) [.t 16,
 .t 20, .t 22, .t 24]) ( .take (.e 26 0 25) <| .take (.e 27 1 25) <| .take (.m 4 26) <| .take (.m 5 27) <| .done))) <|
 .al (.l 24 23) ( .al (.l 22 21) ( .al (.o 25 (.call 160 []) [.t 16, .t 20, .t 22, .t 24]) ( .take (.e 26 0 25) <| .take (.e 27 1 25) <| .take (.m 4 26) <|
 .take (.m 5 27) <| .done)))) <| .alt (.l 22 21) ( .alt (.o 16 (.load true 3) [.t 6]) ( .al (.l 24 23) ( .al (.o 25 (.call 160 []) [.t 16, .t 20, .t 22,
 .t 24]) ( .take (.e 26 0 25) <| .take (.e 27 1 25) <| .take (.m 4 26) <| .take (.m 5 27) <| .done))) <|
 .al (.l 24 23) ( .al (.o 16 (.load true 3) [.t 6]) ( .al (.o 25 (.call 160 []) [.t 16, .t 20, .t 22, .t 24]) ( .take (.e 26 0 25) <| .take (.e 27 1 25) <|
 .take (.m 4 26) <| .take (.m 5 27) <| .done)))) <| .al (.l 24 23) ( .alt (.o 16 (.load true 3) [.t 6]) ( .al (.l 22 21) ( .al (.o 25 (.call 160 []) [.t 16,
 .t 20, .t 22, .t 24]) ( .take (.e 26 0 25) <| .take (.e 27 1 25) <| .take (.m 4 26) <| .take (.m 5 27) <| .done))) <|
 .al (.l 22 21) ( .al (.o 16 (.load true 3) [.t 6]) ( .al (.o 25 (.call 160 []) [.t 16, .t 20, .t 22, .t 24]) ( .take (.e 26 0 25) <| .take (.e 27 1 25) <|
 .take (.m 4 26) <| .take (.m 5 27) <| .done))))) <|
 .alt (.l 22 21) ( .alt (.o 16 (.load true 3) [.t 6]) ( .alt (.l 20 19) ( .al (.l 24 23) ( .al (.o 25 (.call 160 []) [.t 16, .t 20, .t 22,
 .t 24]) ( .take (.e 26 0 25) <| .take (.e 27 1 25) <| .take (.m 4 26) <| .take (.m 5 27) <| .done))) <|
 .al (.l 24 23) ( .al (.l 20 19) ( .al (.o 25 (.call 160 []) [.t 16, .t 20, .t 22, .t 24]) ( .take (.e 26 0 25) <| .take (.e 27 1 25) <| .take (.m 4 26) <|
 .take (.m 5 27) <| .done)))) <| .alt (.l 20 19) ( .alt (.o 16 (.load true 3) [.t 6]) ( .al (.l 24 23) ( .al (.o 25 (.call 160 []) [.t 16, .t 20, .t 22,
 .t 24]) ( .take (.e 26 0 25) <| .take (.e 27 1 25) <| .take (.m 4 26) <| .take (.m 5 27) <| .done))) <|
 .al (.l 24 23) ( .al (.o 16 (.load true 3) [.t 6]) ( .al (.o 25 (.call 160 []) [.t 16, .t 20, .t 22, .t 24]) ( .take (.e 26 0 25) <| .take (.e 27 1 25) <|
 .take (.m 4 26) <| .take (.m 5 27) <| .done)))) <| .al (.l 24 23) ( .alt (.o 16 (.load true 3) [.t 6]) ( .al (.l 20 19) ( .al (.o 25 (.call 160 []) [.t 16,
 .t 20, .t 22, .t 24]) ( .take (.e 26 0 25) <| .take (.e 27 1 25) <| .take (.m 4 26) <| .take (.m 5 27) <| .done))) <|
 .al (.l 20 19) ( .al (.o 16 (.load true 3) [.t 6]) ( .al (.o 25 (.call 160 []) [.t 16, .t 20, .t 22, .t 24]) ( .take (.e 26 0 25) <| .take (.e 27 1 25) <|
 .take (.m 4 26) <| .take (.m 5 27) <| .done))))) <|
 .al (.l 24 23) ( .alt (.o 16 (.load true 3) [.t 6]) ( .alt (.l 20 19) ( .al (.l 22 21) ( .al (.o 25 (.call 160 []) [.t 16, .t 20, .t 22,
 .t 24]) ( .take (.e 26 0 25) <| .take (.e 27 1 25) <| .take (.m 4 26) <| .take (.m 5 27) <| .done))) <|
 .al (.l 22 21) ( .al (.l 20 19) ( .al (.o 25 (.call 160 []) [.t 16, .t 20, .t 22, .t 24]) ( .take (.e 26 0 25) <| .take (.e 27 1 25) <| .take (.m 4 26) <|
 .take (.m 5 27) <| .done)))) <| .alt (.l 20 19) ( .alt (.o 16 (.load true 3) [.t 6]) ( .al (.l 22 21) ( .al (.o 25 (.call 160 []) [.t 16, .t 20, .t 22,
 .t 24]) ( .take (.e 26 0 25) <| .take (.e 27 1 25) <| .take (.m 4 26) <| .take (.m 5 27) <| .done))) <|
 .al (.l 22 21) ( .al (.o 16 (.load true 3) [.t 6]) ( .al (.o 25 (.call 160 []) [.t 16, .t 20, .t 22, .t 24]) ( .take (.e 26 0 25) <| .take (.e 27 1 25) <|
 .take (.m 4 26) <| .take (.m 5 27) <| .done)))) <| .al (.l 22 21) ( .alt (.o 16 (.load true 3) [.t 6]) ( .al (.l 20 19) ( .al (.o 25 (.call 160 []) [.t 16,
 .t 20, .t 22, .t 24]) ( .take (.e 26 0 25) <| .take (.e 27 1 25) <| .take (.m 4 26) <| .take (.m 5 27) <| .done))) <|
 .al (.l 20 19) ( .al (.o 16 (.load true 3) [.t 6]) ( .al (.o 25 (.call 160 []) [.t 16, .t 20, .t 22, .t 24]) ( .take (.e 26 0 25) <| .take (.e 27 1 25) <|
 .take (.m 4 26) <| .take (.m 5 27) <| .done))))))) <| .ret) ( .seq (.reg [.o 29 (.bin .eql 0) [.t 13, .k 1], .m 28 29]) <|
 .cond (.t 28) ( .seq (.draw ( .take (.m 31 0) <| .take (.o 32 .nilck [.t 31]) <| .take (.f 33 4 32) <| .take (.f 35 1 3) <|
 .alt (.o 30 (.load true 3) [.t 6]) ( .alt (.l 34 33) ( .al (.l 36 35) ( .al (.o 37 (.call 161 []) [.t 30, .t 34, .t 36]) ( .take (.e 38 0 37) <|
 .take (.e 39 1 37) <| .take (.m 4 38) <| .take (.m 5 39) <| .done))) <| .al (.l 36 35) ( .al (.l 34 33) ( .al (.o 37 (.call 161 []) [.t 30, .t 34,
 .t 36]) ( .take (.e 38 0 37) <| .take (.e 39 1 37) <| .take (.m 4 38) <| .take (.m 5 39) <| .done)))) <|
 .alt (.l 34 33) ( .alt (.o 30 (.load true 3) [.t 6]) ( .al (.l 36 35) ( .al (.o 37 (.call 161 []) [.t 30, .t 34, .t 36]) ( .take (.e 38 0 37) <|
 .take (.e 39 1 37) <| .take (.m 4 38) <| .take (.m 5 39) <| .done))) <| .al (.l 36 35) ( .al (.o 30 (.load true 3) [.t 6]) ( .al (.o 37 (.call 161 []) [.t 30,
 .t 34, .t 36]) ( .take (.e 38 0 37) <| .take (.e 39 1 37) <| .take (.m 4 38) <| .take (.m 5 39) <| .done)))) <|
 .al (.l 36 35) ( .alt (.o 30 (.load true 3) [.t 6]) ( .al (.l 34 33) ( .al (.o 37 (.call 161 []) [.t 30, .t 34, .t 36]) ( .take (.e 38 0 37) <|
 .take (.e 39 1 37) <| .take (.m 4 38) <| .take (.m 5 39) <| .done))) <| .al (.l 34 33) ( .al (.o 30 (.load true 3) [.t 6]) ( .al (.o 37 (.call 161 []) [.t 30,
 .t 34, .t 36]) ( .take (.e 38 0 37) <| .take (.e 39 1 37) <| .take (.m 4 38) <| .take (.m 5 39) <| .done)))))) <|
 .ret) ( .seq (.reg [.o 41 (.bin .eql 0) [.t 13, .k 2], .m 40 41]) <| .cond (.t 40) ( .seq (.draw ( .take (.m 43 0) <| .take (.o 44 .nilck [.t 43]) <|
 .take (.f 45 4 44) <| .take (.f 47 1 3) <| .alt (.o 42 (.load true 3) [.t 6]) ( .alt (.l 46 45) ( .al (.l 48 47) ( .al (.o 49 (.call 162 []) [.t 42, .t 46,
 .t 48]) ( .take (.e 50 0 49) <| .take (.e 51 1 49) <| .take (.m 4 50) <| .take (.m 5 51) <| .done))) <|
 .al (.l 48 47) ( .al (.l 46 45) ( .al (.o 49 (.call 162 []) [.t 42, .t 46, .t 48]) ( .take (.e 50 0 49) <| .take (.e 51 1 49) <| .take (.m 4 50) <|
 .take (.m 5 51) <| .done)))) <| .alt (.l 46 45) ( .alt (.o 42 (.load true 3) [.t 6]) ( .al (.l 48 47) ( .al (.o 49 (.call 162 []) [.t 42, .t 46,
 .t 48]) ( .take (.e 50 0 49) <| .take (.e 51 1 49) <| .take (.m 4 50) <| .take (.m 5 51) <| .done))) <|
 .al (.l 48 47) ( .al (.o 42 (.load true 3) [.t 6]) ( .al (.o 49 (.call 162 []) [.t 42, .t 46, .t 48]) ( .take (.e 50 0 49) <| .take (.e 51 1 49) <|
 .take (.m 4 50) <| .take (.m 5 51) <| .done)))) <| .al (.l 48 47) ( .alt (.o 42 (.load true 3) [.t 6]) ( .al (.l 46 45) ( .al (.o 49 (.call 162 []) [.t 42,
 .t 46, .t 48]) ( .take (.e 50 0 49) <| .take (.e 51 1 49) <| .take (.m 4 50) <| .take (.m 5 51) <| .done))) <|
 .al (.l 46 45) ( .al (.o 42 (.load true 3) [.t 6]) ( .al (.o 49 (.call 162 []) [.t 42, .t 46, .t 48]) ( .take (.e 50 0 49) <| .take (.e 51 1 49) <|
 .take (.m 4 50) <| .take (.m 5 51) <| .done)))))) <| .ret) ( .seq (.reg [.o 53 (.bin .eql 0) [.t 13, .k 3], .m 52 53]) <|
 .cond (.t 52) ( .seq (.draw ( .take (.m 55 0) <| .take (.o 56 .nilck [.t 55]) <| .take (.f 57 3 56) <| .take (.m 59 0) <| .take (.o 60 .nilck [.t 59]) <|
 .take (.f 61 4 60) <| .alt (.o 54 (.load true 3) [.t 6]) ( .alt (.l 58 57) ( .al (.l 62 61) ( .al (.o 63 (.call 163 []) [.t 54, .t 58,
 .t 62]) ( .take (.m 7 63) <| .done))) <| .al (.l 62 61) ( .al (.l 58 57) ( .al (.o 63 (.call 163 []) [.t 54, .t 58, .t 62]) ( .take (.m 7 63) <| .done)))) <|
 .alt (.l 58 57) ( .alt (.o 54 (.load true 3) [.t 6]) ( .al (.l 62 61) ( .al (.o 63 (.call 163 []) [.t 54, .t 58, .t 62]) ( .take (.m 7 63) <| .done))) <|
 .al (.l 62 61) ( .al (.o 54 (.load true 3) [.t 6]) ( .al (.o 63 (.call 163 []) [.t 54, .t 58, .t 62]) ( .take (.m 7 63) <| .done)))) <|
 .al (.l 62 61) ( .alt (.o 54 (.load true 3) [.t 6]) ( .al (.l 58 57) ( .al (.o 63 (.call 163 []) [.t 54, .t 58, .t 62]) ( .take (.m 7 63) <| .done))) <|
 .al (.l 58 57) ( .al (.o 54 (.load true 3) [.t 6]) ( .al (.o 63 (.call 163 []) [.t 54, .t 58, .t 62]) ( .take (.m 7 63) <| .done)))))) <| .seq (.reg [.m 64 7,
 .m 65 7, .m 66 0, .o 67 .nilck [.t 66], .f 68 4 67, .l 69 68, .o 70 (.call 164 []) [.t 65, .t 69], .o 71 (.un .not) [.t 70], .m 4 64, .m 5 71]) <|
 .ret) ( .skip)))))) <| .seq (.reg [.o 4 .mv [.c (.os 1 [])], .o 5 .mv [.c (.v (.bool false))]]) <| .ret

-- 2 parameters, results [.t 4], 90 slots, modes [false, false]
@[simp] abbrev n_impl_Book_do : Nat := 65
def c_impl_Book_do_T0 : ACode := .seq (.reg [.m 76 0, .m 77 0, .m 78 6, .m 79 8, .m 80 8, .o 81 (.len false) [.t 80], .o 82 (.bin .sub 0) [.t 81, .k 20],
 .o 83 (.mnx false) [.k 0, .t 82], .o 84 (.slice 1 false true false false) [.t 79, .t 83], .o 85 (.call 124 []) [.t 84], .o 86 .nilck [.t 76], .f 87 4 86,
 .s (.store 1) [.t 87, .t 78], .o 88 .nilck [.t 77], .f 89 5 88, .s (.store 1) [.t 89, .t 85]]) <| .lg <| .seq (.reg [.o 4 .mv [.c (.v (.bool true))]]) <| .ret

def c_impl_Book_do_T1 : ACode := .seq (.draw ( .take (.m 65 0) <| .take (.o 66 .nilck [.t 65]) <| .take (.f 67 5 66) <| .take (.m 70 0) <|
 .take (.o 71 .nilck [.t 70]) <| .take (.f 72 4 71) <|
 .alt (.l 68 67) ( .alt (.o 69 (.call 124 []) [.t 68]) ( .al (.l 73 72) ( .al (.o 74 (.bsl 1) [.t 73]) ( .al (.o 75 (.app 1 24 false) [.t 69,
 .t 74]) ( .take (.m 8 75) <| .done)))) <|
 .al (.l 73 72) ( .alt (.o 69 (.call 124 []) [.t 68]) ( .al (.o 74 (.bsl 1) [.t 73]) ( .al (.o 75 (.app 1 24 false) [.t 69, .t 74]) ( .take (.m 8 75) <|
 .done))) <| .al (.o 74 (.bsl 1) [.t 73]) ( .al (.o 69 (.call 124 []) [.t 68]) ( .al (.o 75 (.app 1 24 false) [.t 69, .t 74]) ( .take (.m 8 75) <| .done))))) <|
 .al (.l 73 72) ( .alt (.l 68 67) ( .alt (.o 69 (.call 124 []) [.t 68]) ( .al (.o 74 (.bsl 1) [.t 73]) ( .al (.o 75 (.app 1 24 false) [.t 69,
 .t 74]) ( .take (.m 8 75) <| .done))) <| .al (.o 74 (.bsl 1) [.t 73]) ( .al (.o 69 (.call 124 []) [.t 68]) ( .al (.o 75 (.app 1 24 false) [.t 69,
 .t 74]) ( .take (.m 8 75) <| .done)))) <|
 .al (.o 74 (.bsl 1) [.t 73]) ( .al (.l 68 67) ( .al (.o 69 (.call 124 []) [.t 68]) ( .al (.o 75 (.app 1 24 false) [.t 69, .t 74]) ( .take (.m 8 75) <|
 .done))))))) <| .lg c_impl_Book_do_T0

def c_impl_Book_do_T2 : ACode := .seq (.reg [.m 45 0, .o 46 (.load true 3) [.t 3], .o 47 (.call 125 []) [.t 45, .t 46], .m 44 47, .e 48 0 44, .e 49 1 44,
 .m 6 48, .m 7 49]) <| .seq (.seq (.draw ( .take (.m 50 7) <| .take (.o 51 (.un .not) [.t 50]) <| .take (.m 52 51) <| .take (.mg 53 0 52 false) <|
 .take (.g 54 .nilck [.t 53] 52 false) <| .take (.g 55 (.fadr 0) [.t 54] 52 false) <| .take (.mg 57 0 52 false) <| .take (.g 58 .nilck [.t 57] 52 false) <|
 .take (.g 59 (.fadr 3) [.t 58] 52 false) <| .take (.mg 61 6 52 false) <|
 .alt (.g 56 (.load true 3) [.t 55] 52 false) ( .al (.g 60 (.load false 1) [.t 59] 52 false) ( .al (.g 62 (.call 107 []) [.t 56, .t 60,
 .t 61] 52 false) ( .take (.g 63 (.un .not) [.t 62] 52 false) <| .take (.o 64 .pick [.t 52, .c (.v (.bool true)), .t 63]) <| .done))) <|
 .al (.g 60 (.load false 1) [.t 59] 52 false) ( .al (.g 56 (.load true 3) [.t 55] 52 false) ( .al (.g 62 (.call 107 []) [.t 56, .t 60,
 .t 61] 52 false) ( .take (.g 63 (.un .not) [.t 62] 52 false) <| .take (.o 64 .pick [.t 52, .c (.v (.bool true)), .t 63]) <| .done))))) <|
 .cond (.t 64) ( .seq (.reg [.o 4 .mv [.c (.v (.bool false))]]) <| .ret) ( .skip)) <| .lg c_impl_Book_do_T1

def c_impl_Book_do_D : ACode := .draw ( .take (.m 22 0) <| .take (.m 23 0) <| .take (.m 24 0) <| .take (.o 25 .nilck [.t 24]) <| .take (.f 26 5 25) <|
 .take (.m 28 5) <| .take (.o 29 (.bin .sub 0) [.t 28, .k 1]) <| .take (.m 32 0) <| .take (.o 33 .nilck [.t 32]) <| .take (.f 34 5 33) <| .take (.m 36 5) <|
 .take (.o 37 (.bin .sub 0) [.t 36, .k 1]) <| .alt (.l 27 26) ( .take (.o 30 (.iadr 1) [.t 27, .t 29]) <|
 .alt (.l 31 30) ( .al (.l 35 34) ( .take (.o 38 (.slice 1 false false true false) [.t 35, .t 37]) <|
 .al (.o 39 (.call 124 []) [.t 38]) ( .take (.o 40 .nilck [.t 22]) <| .take (.f 41 4 40) <| .al (.s (.store 1) [.t 41, .t 31]) ( .take (.o 42 .nilck [.t 23]) <|
 .take (.f 43 5 42) <| .al (.s (.store 1) [.t 43, .t 39]) ( .done))))) <| .al (.l 35 34) ( .take (.o 38 (.slice 1 false false true false) [.t 35, .t 37]) <|
 .alt (.l 31 30) ( .al (.o 39 (.call 124 []) [.t 38]) ( .take (.o 40 .nilck [.t 22]) <| .take (.f 41 4 40) <| .al (.s (.store 1) [.t 41,
 .t 31]) ( .take (.o 42 .nilck [.t 23]) <| .take (.f 43 5 42) <| .al (.s (.store 1) [.t 43, .t 39]) ( .done)))) <|
 .al (.o 39 (.call 124 []) [.t 38]) ( .al (.l 31 30) ( .take (.o 40 .nilck [.t 22]) <| .take (.f 41 4 40) <| .al (.s (.store 1) [.t 41,
 .t 31]) ( .take (.o 42 .nilck [.t 23]) <| .take (.f 43 5 42) <| .al (.s (.store 1) [.t 43, .t 39]) ( .done)))))) <|
 .al (.l 35 34) ( .take (.o 38 (.slice 1 false false true false) [.t 35, .t 37]) <| .alt (.l 27 26) ( .take (.o 30 (.iadr 1) [.t 27, .t 29]) <|
 .alt (.l 31 30) ( .al (.o 39 (.call 124 []) [.t 38]) ( .take (.o 40 .nilck [.t 22]) <| .take (.f 41 4 40) <| .al (.s (.store 1) [.t 41,
 .t 31]) ( .take (.o 42 .nilck [.t 23]) <| .take (.f 43 5 42) <| .al (.s (.store 1) [.t 43, .t 39]) ( .done)))) <|
 .al (.o 39 (.call 124 []) [.t 38]) ( .al (.l 31 30) ( .take (.o 40 .nilck [.t 22]) <| .take (.f 41 4 40) <| .al (.s (.store 1) [.t 41,
 .t 31]) ( .take (.o 42 .nilck [.t 23]) <| .take (.f 43 5 42) <| .al (.s (.store 1) [.t 43, .t 39]) ( .done))))) <|
 .al (.o 39 (.call 124 []) [.t 38]) ( .al (.l 27 26) ( .take (.o 30 (.iadr 1) [.t 27, .t 29]) <| .al (.l 31 30) ( .take (.o 40 .nilck [.t 22]) <|
 .take (.f 41 4 40) <| .al (.s (.store 1) [.t 41, .t 31]) ( .take (.o 42 .nilck [.t 23]) <| .take (.f 43 5 42) <| .al (.s (.store 1) [.t 43,
 .t 39]) ( .done)))))))

def c_impl_Book_do : ACode := .seq (.reg [.o 3 .box [.t 1], .o 4 .mv [.c (.v (.bool false))]]) <| .seq (.seq (.reg [.o 9 (.load true 3) [.t 3],
 .o 10 (.call 123 []) [.t 9], .o 11 (.un .not) [.t 10]]) <| .cond (.t 11) ( .seq (.reg [.o 4 .mv [.c (.v (.bool false))]]) <| .ret) ( .skip)) <|
 .seq (.seq (.reg [.m 12 0, .o 13 .nilck [.t 12], .f 14 5 13, .l 15 14, .o 16 (.len false) [.t 15], .m 5 16]) <| .seq (.reg [.f 17 0 3, .l 18 17,
 .o 19 (.bin .eql 0) [.t 18, .k 4]]) <| .cond (.t 19) ( .seq (.seq (.reg [.m 20 5, .o 21 (.bin .eql 0) [.t 20, .k 0]]) <|
 .cond (.t 21) ( .seq (.reg [.o 4 .mv [.c (.v (.bool false))]]) <| .ret) ( .skip)) <| .lg <| .seq (c_impl_Book_do_D) <| .lg <|
 .seq (.reg [.o 4 .mv [.c (.v (.bool true))]]) <| .ret) ( .skip)) <| c_impl_Book_do_T2

-- 2 parameters, results [.c 4 true 6, .t 5], 18 slots, modes [false, false]
@[simp] abbrev n_impl_BookDo : Nat := 18

def c_impl_BookDo : ACode := .seq (.reg [.o 2 .box [.t 0], .o 3 .box [.t 1], .o 4 (.alloc [.v (.int .i64 (0)), .v (.int .i64 (0)), .os 1 [], .os 1 [], .os 1 [],
 .os 1 []]) [], .o 5 .mv [.c (.v (.bool false))]]) <| .seq (.seq (.reg [.o 8 (.load true 6) [.t 2], .o 9 (.call 19 []) [.t 8], .o 10 (.un .not) [.t 9]]) <|
 .cond (.t 10) ( .seq (.reg [.o 11 (.build [.v (.int .i64 (0)), .v (.int .i64 (0)), .os 1 [], .os 1 [], .os 1 [], .os 1 []] []) [], .s (.store 6) [.t 4, .t 11],
 .o 5 .mv [.c (.v (.bool false))]]) <| .ret) ( .skip)) <| .seq (.reg [.o 12 (.load true 6) [.t 2], .o 13 (.call 64 []) [.t 12], .o 6 (.alloc [.v (.int .i64 (0)),
 .v (.int .i64 (0)), .os 1 [], .os 1 [], .os 1 [], .os 1 []]) [], .s (.store 6) [.t 6, .t 13]]) <| .seq (.reg [.o 14 (.load true 3) [.t 3],
 .o 15 (.call 65 []) [.t 6, .t 14], .m 7 15]) <| .seq (.reg [.o 16 (.load true 6) [.t 6], .m 17 7, .s (.store 6) [.t 4, .t 16], .m 5 17]) <| .ret

end Go.Proofs.Dev

namespace Go.Proofs.Dev
set_option linter.unusedSimpArgs false
set_option maxRecDepth 100000

@[simp] def deedV (kind spot way : Int) : AV := .agg [.v (.int .i64 kind), .v (.int .i64 spot), .v (.int .i64 way)]
attribute [simp] anil
def rawL (us : List Value) : List AV := us.map AV.v
@[simp] theorem rawL_length (us : List Value) : (rawL us).length = us.length := by simp [rawL]
theorem oneE_oss (ps : List (List Int)) : oneE (oss ps) := by
  intro e he
  obtain ⟨p, _, rfl⟩ := List.mem_map.1 he
  rfl
theorem vwL_raw (c : Nat) (us : List Value) : vwL c (rawL us) = rawL us := by
  induction us with
  | nil => rfl
  | cons u us ih => show vw c (.v u) :: vwL c (rawL us) = .v u :: rawL us; rw [ih]; rfl

@[simp] def mdo (f : Nat) : List Bool := if f = 65 then [true, false] else []
@[simp] def boxO (W T : Int) (cs : List Bool) (ds ls : List Int) (ps : List (List Int)) : AV := .op [.v (.int .i64 W), .v (.int .i64 T), .os 1 (bools cs), .os 1 (ints ds), .os 1 (ints ls), .os 1 (oss ps)]

set_option maxHeartbeats 4000000 in
theorem s_impl_do_back (k : cFn Tryz.prog n_impl_Book_do 90 [.t 4] c_impl_Book_do) (W T : Int) (cs : List Bool) (ds ls q : List Int) (qs : List (List Int)) (spot way : Int)
    (hq : qs.length ≤ 100)
    (hneeds : SoundAt Tryz.prog 123 [deedV 4 spot way] (.v (.bool true)) [.bot])
    (hclone : ∀ us : List Value, us.length < 2 ^ 40 → (∀ u ∈ us, u.oneCell' = true) → SoundAt Tryz.prog 124 [.sl 1 1 (rawL us)] (.os 1 (rawL us)) [.bot]) :
    SoundAt Tryz.prog n_impl_Book_do [boxO W T cs ds ls (qs ++ [q]), deedV 4 spot way] (.v (.bool true)) [boxO W T cs ds q qs, .bot] := by
  refine fn_ok (md := mdo) (ms := [true, false]) k (by simp) ?_
  simp [c_impl_Book_do]
  refine call_on hneeds ?_
  have e1 : ¬ ((qs.length : Int) + 1 = 0) := by omega
  simp [e1]
  refine Lg.takeAll 4 _ rfl (oneE_oss _) ?_
  intro us hus hok
  obtain ⟨vs, v, rfl⟩ : ∃ vs v, us = vs ++ [v] := by
    rcases List.eq_nil_or_concat us with rfl | ⟨vs, v, h⟩
    · simp [oss] at hus
    · exact ⟨vs, v, by rw [h, List.concat_eq_append]⟩
  have hvs : vs.length = qs.length := by simp [oss] at hus; exact hus
  have hv1 : v.oneCell' = true := hok (okL_oss _) v (by simp)
  have hone : ∀ u ∈ vs, u.oneCell' = true := fun u hu => hok (okL_oss _) u (by simp [hu])
  simp [takeAllH]
  refine Lg.split 6 vs.length (vs ++ [v]) (oss (qs ++ [q])) rfl ?_
  have s1 : (vs ++ [v]).take vs.length = vs := by simp
  have s2 : (vs ++ [v]).drop vs.length = [v] := by simp
  have s3 : (oss (qs ++ [q])).take vs.length = oss qs := by rw [hvs]; simp [oss]
  have s4 : (oss (qs ++ [q])).drop vs.length = [.os 1 (ints q)] := by rw [hvs]; simp [oss]
  simp [splitH, s1, s2, s3, s4]
  refine Lg.done ?_
  have hget : (vs.map AV.v ++ [AV.v v])[qs.length]? = some (.v v) := by rw [← hvs]; simp
  have hw : (vs.map AV.v ++ [AV.v v]).take qs.length = rawL vs := by rw [← hvs]; simp [rawL]
  have clone := hclone vs (by omega) hone
  have hvl := hvs
  have htk : (rawL vs).take vs.length = rawL vs := List.take_of_length_le (by simp)
  have fin : ∀ E : ES, get E 0 = .lp 0 0 0 0 → get E 90 = .lp 0 0 0 0 → get E 91 = deedV 4 spot way →
      Lg (awp Tryz.prog mdo (.seq (.reg [⟨some 4, .mv, [.c (.v (.bool true))], none⟩]) .ret) (athen (awp Tryz.prog mdo c_impl_Book_do_T2 (Fin [RV.t 4] 90 2 [true, false] (.v (.bool true)) [boxO W T cs ds q qs, .bot])) (Fin [RV.t 4] 90 2 [true, false] (.v (.bool true)) [boxO W T cs ds q qs, .bot]))) E
        [some (.box [.v (.int .i64 W), .v (.int .i64 T), .ls 1 1 0 cs.length, .ls 1 2 0 ds.length, .v v, .ls 1 8 0 qs.length]),
          some (.arr 1 (bools cs)), some (.arr 1 (ints ds)), some (.arr 1 (ints ls)), some (.arr 1 (vs.map AV.v ++ [AV.v v])),
          some (.box [.v (.int .i64 4), .v (.int .i64 spot), .v (.int .i64 way)]), some (.pool vs (oss qs)), some (.pool [v] [.os 1 (ints q)]), some (.arr 1 (rawL vs))] := by
    intro E e0 e90 e91
    refine Lg.unpool 7 1 0 4 v (ints q) _ rfl rfl rfl ?_
    simp [unpoolH]
    refine Lg.implode 8 6 vs [] [] (oss qs) (by simp [rawL]) rfl (by omega) (by intro e he; cases he) (by intro e he; cases he) (oneE_oss qs) ?_
    simp [implodeH]
    refine Lg.done ?_
    have hts : (oss qs).take qs.length = oss qs := List.take_of_length_le (by simp [oss])
    have htq : (ints q).take q.length = ints q := take_ints_all q
    simp [get_purgeE, e0, e90, e91, hvs, hts, htq]
  simp [c_impl_Book_do_D, hget]
  (repeat' first | omega | apply And.intro) <;>
  · refine call_on clone ?_
    simp [hw, vwL_raw, hvs, htk]
    first
    | exact ⟨hv1, fin _ rfl rfl rfl⟩
    | exact ⟨by omega, hv1, fin _ rfl rfl rfl⟩
    | exact ⟨by omega, by omega, hv1, fin _ rfl rfl rfl⟩
end Go.Proofs.Dev

namespace Go.Proofs.Dev
set_option linter.unusedSimpArgs false
set_option maxRecDepth 100000

def bkPast (ls : List Int) (ps : List (List Int)) : List (List Int) := (ps ++ [ls]).drop (ps.length + 1 - 20)

abbrev doF (W T : Int) (cs : List Bool) (ds n : List Int) (ps : List (List Int)) := Fin [RV.t 4] 90 2 [true, false] (.v (.bool true)) [boxO W T cs ds n ps, .bot]

theorem bkPast_oss (ls : List Int) (ps : List (List Int)) (d : Nat) (hd : d = ps.length + 1 - 20) : (oss ps).drop d ++ [.os 1 (ints ls)] = oss (bkPast ls ps) := by
  have hd2 : d ≤ ps.length := by omega
  unfold bkPast
  rw [← hd, List.drop_append_of_le_length hd2, oss_append, oss_one]
  simp [oss]

set_option maxHeartbeats 8000000 in
theorem do_T0 (W T : Int) (cs : List Bool) (ds ls n : List Int) (ps : List (List Int)) (kind spot way : Int) (us : List Value) (hp : ps.length ≤ 100) (hn : n.length ≤ 100) (hus : us.length = ps.length) (hok : ∀ u ∈ us, u.oneCell' = true)
    (hclone : ∀ us : List Value, us.length < 2 ^ 40 → (∀ u ∈ us, u.oneCell' = true) → SoundAt Tryz.prog 124 [.sl 1 1 (rawL us)] (.os 1 (rawL us)) [.bot]) (E : ES)
    (e0 : get E 0 = .lp 0 0 0 0) (e6 : get E 6 = .ls 1 6 0 n.length) (e8 : get E 8 = .ls 1 10 0 (ps.length + 1)) (e90 : get E 90 = .lp 0 0 0 0) (e91 : get E 91 = deedV kind spot way) :
    Lg (awp Tryz.prog mdo c_impl_Book_do_T0 (doF W T cs ds n (bkPast ls ps))) E
      [some (.box [.v (.int .i64 W), .v (.int .i64 T), .ls 1 1 0 cs.length, .ls 1 2 0 ds.length, .ls 1 3 0 ls.length, .ls 1 4 0 ps.length]),
        some (.arr 1 (bools cs)), some (.arr 1 (ints ds)), none, some (.arr 1 (us.map AV.v)),
        some (.box [.v (.int .i64 kind), .v (.int .i64 spot), .v (.int .i64 way)]), some (.arr 1 (ints n)), some (.pool us (oss ps)), none, none,
        some (.arr 1 (us.map AV.v ++ [.os 1 (ints ls)]))] := by
  refine Lg.takeAll 10 _ rfl (oneE_append.2 ⟨oneE_vals us, by intro e he; simp at he; subst he; rfl⟩) ?_
  intro us2 hus2 hok2
  have hl2 : us2.length = ps.length + 1 := by rw [hus2]; simp [hus]
  simp [takeAllH]
  refine Lg.done ?_
  obtain ⟨d, hd⟩ : ∃ d : Nat, d = ps.length + 1 - 20 := ⟨_, rfl⟩
  have hm : (if (20 : Int) < ps.length + 1 then (ps.length : Int) + 1 - 20 else 0) = d := by split <;> omega
  have hd2 : d ≤ ps.length := by omega
  have hd3 : d ≤ ps.length + 1 := by omega
  have hone2 : ∀ u ∈ us2.drop d, u.oneCell' = true := by
    intro u hu
    refine hok2 ?_ u (List.mem_of_mem_drop hu)
    have h1 : ∀ us : List Value, (∀ u ∈ us, u.oneCell' = true) → okL (us.map AV.v ++ [.os 1 (ints ls)]) = true := by
      intro us
      induction us with
      | nil => intro _; simp [okL, okE]
      | cons u us ih =>
        intro h
        show (okE (.v u) && okL (us.map AV.v ++ [.os 1 (ints ls)])) = true
        have h2 : okE (.v u) = true := h u (by simp)
        rw [h2, ih fun x hx => h x (by simp [hx])]
        rfl
    exact h1 us hok
  have clone := hclone (us2.drop d) (by simp; omega) hone2
  have hw1 : ((us2.map AV.v).drop d).take (ps.length + 1 - d) = rawL (us2.drop d) := by
    rw [← List.map_drop]
    exact List.take_of_length_le (by simp; omega)
  have hlen : (us2.drop d).length = ps.length + 1 - d := by simp [hl2]
  simp [c_impl_Book_do_T0, get_purgeE, e0, e6, e8, e90, e91, hm, hd3]
  refine ⟨by omega, ?_⟩
  refine call_on clone ?_
  have hle : d + (ps.length + 1 - d) ≤ us2.length := by omega
  simp [hw1, vwL_raw, get_purgeE, e0, e6, e8, e90, e91, hlen, hle]
  refine Lg.split 11 d us2 _ rfl ?_
  have s1 : (us.map AV.v ++ [AV.os 1 (ints ls)]).drop d = (us.drop d).map AV.v ++ [.os 1 (ints ls)] := by
    rw [List.drop_append_of_le_length (by simp; omega), List.map_drop]
  simp only [splitH, s1]
  simp
  refine Lg.implode 12 13 (us2.drop d) [] [] ((us.drop d).map AV.v ++ [.os 1 (ints ls)]) (by simp [rawL]) (by simp) (by omega) (by intro e he; cases he) (by intro e he; cases he) (oneE_append.2 ⟨oneE_vals _, by intro e he; simp at he; subst he; rfl⟩) ?_
  simp [implodeH]
  refine Lg.split 7 d us (oss ps) rfl ?_
  simp [splitH]
  refine Lg.implode 12 14 (us.drop d) [] [.os 1 (ints ls)] ((oss ps).drop d) (by simp) (by simp) (by omega) (by intro e he; cases he) (by intro e he; simp at he; subst he; rfl) (fun e he => oneE_oss ps e (List.mem_of_mem_drop he)) ?_
  simp [implodeH]
  rw [bkPast_oss ls ps d hd]
  refine Lg.done ?_
  have htq : (ints n).take n.length = ints n := take_ints_all n
  have hbl : (bkPast ls ps).length = ps.length + 1 - d := by unfold bkPast; rw [← hd]; simp
  have htb : (oss (bkPast ls ps)).take (ps.length + 1 - d) = oss (bkPast ls ps) := List.take_of_length_le (by simp [oss, hbl])
  simp [get_purgeE, e0, e6, e8, e90, e91, htq, hbl, htb]

set_option maxHeartbeats 8000000 in
theorem do_T1 (W T : Int) (cs : List Bool) (ds ls n : List Int) (ps : List (List Int)) (kind spot way : Int) (hp : ps.length ≤ 100) (hls : ls.length ≤ 100) (hn : n.length ≤ 100)
    (hclone : ∀ us : List Value, us.length < 2 ^ 40 → (∀ u ∈ us, u.oneCell' = true) → SoundAt Tryz.prog 124 [.sl 1 1 (rawL us)] (.os 1 (rawL us)) [.bot]) (E : ES)
    (e0 : get E 0 = .lp 0 0 0 0) (e6 : get E 6 = .ls 1 6 0 n.length) (e90 : get E 90 = .lp 0 0 0 0) (e91 : get E 91 = deedV kind spot way) :
    Lg (awp Tryz.prog mdo c_impl_Book_do_T1 (doF W T cs ds n (bkPast ls ps))) E
      [some (.box [.v (.int .i64 W), .v (.int .i64 T), .ls 1 1 0 cs.length, .ls 1 2 0 ds.length, .ls 1 3 0 ls.length, .ls 1 4 0 ps.length]),
        some (.arr 1 (bools cs)), some (.arr 1 (ints ds)), some (.arr 1 (ints ls)), some (.arr 1 (oss ps)),
        some (.box [.v (.int .i64 kind), .v (.int .i64 spot), .v (.int .i64 way)]), some (.arr 1 (ints n))] := by
  refine Lg.takeAll 4 _ rfl (oneE_oss ps) ?_
  intro us hus hok
  have hl : us.length = ps.length := by rw [hus]; simp [oss]
  have hone : ∀ u ∈ us, u.oneCell' = true := hok (okL_oss ps)
  have clone := hclone us (by omega) hone
  have htk : (us.map AV.v).take ps.length = rawL us := by rw [← hl]; exact List.take_of_length_le (by simp)
  have hokr : okL (rawL us) = true := by
    clear hok hus clone htk hl
    induction us with
    | nil => rfl
    | cons u us ih =>
      have h2 : okE (.v u) = true := hone u (by simp)
      show (okE (.v u) && okL (rawL us)) = true
      rw [h2, ih fun x hx => hone x (by simp [hx])]
      rfl
  simp [takeAllH]
  refine Lg.done ?_
  simp [c_impl_Book_do_T1, get_purgeE, e0, e6, e90, e91]
  (repeat' first | omega | apply And.intro) <;>
  · refine call_on clone ?_
    simp [htk, vwL_raw, get_purgeE, e0, e6, e90, e91, hl]
    exact ⟨by omega, do_T0 W T cs ds ls n ps kind spot way us hp hn hl hone hclone _ (by simp [get_purgeE, e0]) (by simp [get_purgeE, e6]) (by simp) (by simp [get_purgeE, e90]) (by simp [get_purgeE, e91])⟩

set_option maxHeartbeats 8000000 in
theorem s_impl_do_lay (k : cFn Tryz.prog n_impl_Book_do 90 [.t 4] c_impl_Book_do) (W T : Int) (cs : List Bool) (ds ls n : List Int) (ps : List (List Int)) (kind spot way : Int) (b fb : Bool)
    (hp : ps.length ≤ 100) (hkind : kind ≠ 4) (hls : ls.length ≤ 100) (hn : n.length ≤ 100)
    (hneeds : SoundAt Tryz.prog 123 [deedV kind spot way] (.v (.bool true)) [.bot])
    (hby : SoundAt Tryz.prog 125 [.vp 1 [.v (.int .i64 W), .v (.int .i64 T), .sl 1 1 (bools cs), .sl 1 1 (ints ds), .sl 1 1 (ints ls), .sl 1 1 (sls 1 ps)] 0, deedV kind spot way] (.tup [.os 1 (ints n), .v (.bool b)]) [.bot, .bot])
    (hfair : SoundAt Tryz.prog 107 [.agg [.v (.int .i64 W), .v (.int .i64 T), .sl 1 1 (bools cs)], .sl 1 1 (ints ds), .sl 1 1 (ints n)] (.v (.bool fb)) [.bot, .bot, .bot])
    (hclone : ∀ us : List Value, us.length < 2 ^ 40 → (∀ u ∈ us, u.oneCell' = true) → SoundAt Tryz.prog 124 [.sl 1 1 (rawL us)] (.os 1 (rawL us)) [.bot]) :
    SoundAt Tryz.prog n_impl_Book_do [boxO W T cs ds ls ps, deedV kind spot way] (.v (.bool (b && fb))) [if (b && fb) = true then boxO W T cs ds n (bkPast ls ps) else boxO W T cs ds ls ps, .bot] := by
  refine fn_ok (md := mdo) (ms := [true, false]) k (by simp) ?_
  have htl : (ints ls).take ls.length = ints ls := take_ints_all ls
  have hto : (oss ps).take ps.length = oss ps := List.take_of_length_le (by simp [oss])
  cases b with
  | false =>
    simp [c_impl_Book_do]
    refine call_on hneeds ?_
    simp [hkind, c_impl_Book_do_T2]
    refine call_on hby ?_
    simp [htl, hto]
  | true =>
  cases fb with
  | false =>
    simp [c_impl_Book_do]
    refine call_on hneeds ?_
    simp [hkind, c_impl_Book_do_T2]
    refine call_on hby ?_
    simp
    (repeat' first | omega | apply And.intro) <;>
    · refine call_on hfair ?_
      simp [htl, hto]
  | true =>
    simp [c_impl_Book_do]
    refine call_on hneeds ?_
    simp [hkind, c_impl_Book_do_T2]
    refine call_on hby ?_
    simp
    (repeat' first | omega | apply And.intro) <;>
    · refine call_on hfair ?_
      simp
      exact do_T1 W T cs ds ls n ps kind spot way hp hls hn hclone _ rfl rfl rfl rfl
end Go.Proofs.Dev

namespace Go.Proofs.Dev
set_option linter.unusedSimpArgs false
set_option maxRecDepth 100000

/-- What do gives: whether it is done, what is laid, what is past. -/
def doRes (named : Bool) (kind : Int) (ls : List Int) (ps : List (List Int)) (n : List Int) (b : Bool) : Bool × List Int × List (List Int) :=
  if named = false then (false, ls, ps) else
  if kind = 4 then (match ps.getLast? with | some q => (true, q, ps.dropLast) | none => (false, ls, ps)) else
  if b then (true, n, bkPast ls ps) else (false, ls, ps)

theorem s_impl_do (k : cFn Tryz.prog n_impl_Book_do 90 [.t 4] c_impl_Book_do) (W T : Int) (cs : List Bool) (ds ls n : List Int) (ps : List (List Int)) (kind spot way : Int) (named b fb : Bool)
    (hp : ps.length ≤ 100) (hls : ls.length ≤ 100) (hn : n.length ≤ 100)
    (hneeds : SoundAt Tryz.prog 123 [deedV kind spot way] (.v (.bool named)) [.bot])
    (hby : named = true → kind ≠ 4 → SoundAt Tryz.prog 125 [.vp 1 [.v (.int .i64 W), .v (.int .i64 T), .sl 1 1 (bools cs), .sl 1 1 (ints ds), .sl 1 1 (ints ls), .sl 1 1 (sls 1 ps)] 0, deedV kind spot way] (.tup [.os 1 (ints n), .v (.bool b)]) [.bot, .bot])
    (hfair : named = true → kind ≠ 4 → SoundAt Tryz.prog 107 [.agg [.v (.int .i64 W), .v (.int .i64 T), .sl 1 1 (bools cs)], .sl 1 1 (ints ds), .sl 1 1 (ints n)] (.v (.bool fb)) [.bot, .bot, .bot])
    (hclone : ∀ us : List Value, us.length < 2 ^ 40 → (∀ u ∈ us, u.oneCell' = true) → SoundAt Tryz.prog 124 [.sl 1 1 (rawL us)] (.os 1 (rawL us)) [.bot]) :
    SoundAt Tryz.prog n_impl_Book_do [boxO W T cs ds ls ps, deedV kind spot way] (.v (.bool (doRes named kind ls ps n (b && fb)).1))
      [boxO W T cs ds (doRes named kind ls ps n (b && fb)).2.1 (doRes named kind ls ps n (b && fb)).2.2, .bot] := by
  have htl : (ints ls).take ls.length = ints ls := take_ints_all ls
  have hto : (oss ps).take ps.length = oss ps := List.take_of_length_le (by simp [oss])
  cases named with
  | false =>
    refine fn_ok (md := mdo) (ms := [true, false]) k (by simp) ?_
    simp [c_impl_Book_do, doRes]
    refine call_on hneeds ?_
    simp [htl, hto]
  | true =>
  by_cases hk : kind = 4
  · subst hk
    rcases List.eq_nil_or_concat ps with rfl | ⟨qs, q, h⟩
    · refine fn_ok (md := mdo) (ms := [true, false]) k (by simp) ?_
      simp [c_impl_Book_do, doRes]
      refine call_on hneeds ?_
      simp [htl, hto]
    · rw [List.concat_eq_append] at h
      subst h
      have e : doRes true 4 ls (qs ++ [q]) n (b && fb) = (true, q, qs) := by simp [doRes]
      rw [e]
      exact s_impl_do_back k W T cs ds ls q qs spot way (by simp at hp; omega) hneeds hclone
  · have h := s_impl_do_lay k W T cs ds ls n ps kind spot way b fb hp hk hls hn hneeds (hby rfl hk) (hfair rfl hk) hclone
    cases hb : (b && fb) with
    | false =>
      rw [hb] at h
      have e : doRes true kind ls ps n false = (false, ls, ps) := by simp [doRes, hk]
      rw [e]; simpa using h
    | true =>
      rw [hb] at h
      have e : doRes true kind ls ps n true = (true, n, bkPast ls ps) := by simp [doRes, hk]
      rw [e]; simpa using h

theorem s_impl_BookDo (k : cFn Tryz.prog n_impl_BookDo 18 [.c 4 true 6, .t 5] c_impl_BookDo) (W T : Int) (cs : List Bool) (ds ls : List Int) (ps : List (List Int)) (kind spot way : Int) (ok r : Bool) (l2 : List Int) (p2 : List (List Int))
    (hv : SoundAt Tryz.prog 19 [bkA W T cs ds ls ps] (.v (.bool ok)) [.bot])
    (hcopy : ok = true → SoundAt Tryz.prog 64 [bkA W T cs ds ls ps] (bkO W T cs ds ls ps) [.bot])
    (hdo : ok = true → SoundAt Tryz.prog n_impl_Book_do [boxO W T cs ds ls ps, deedV kind spot way] (.v (.bool r)) [boxO W T cs ds l2 p2, .bot]) :
    SoundAt Tryz.prog n_impl_BookDo [bkA W T cs ds ls ps, deedV kind spot way] (.tup [if ok then bkO W T cs ds l2 p2 else bkO 0 0 [] [] [] [], .v (.bool (ok && r))]) [.bot, .bot] := by
  refine fn_ok (md := mdo) (ms := [false, false]) k (by simp) ?_
  cases ok with
  | false =>
    simp [c_impl_BookDo]
    refine call_on hv ?_
    simp
  | true =>
    have hcopy := hcopy rfl
    have hdo := hdo rfl
    have htl : (ints l2).take l2.length = ints l2 := take_ints_all l2
    have hto : (oss p2).take p2.length = oss p2 := List.take_of_length_le (by simp [oss])
    simp [c_impl_BookDo]
    refine call_on hv ?_
    simp
    refine call_on hcopy ?_
    simp
    refine call_on hdo ?_
    simp [htl, hto]
end Go.Proofs.Dev

namespace Go.Proofs.Dev
set_option linter.unusedSimpArgs false
set_option maxRecDepth 100000

/-- What is laid after a deed: laid, lifted, flipped, forced. -/
def byRes (kind : Int) (n0 n1 n2 n3 : List Int) (b0 b1 b2 b3 : Bool) : List Int × Bool :=
  if kind = 0 then (n0, b0) else if kind = 1 then (n1, b1) else if kind = 2 then (n2, b2) else if kind = 3 then (n3, b3) else ([], false)

set_option maxHeartbeats 8000000 in
theorem s_impl_laidBy (k : cFn Tryz.prog n_impl_Book_laidBy 72 [.t 4, .t 5] c_impl_Book_laidBy) (W T : Int) (cs : List Bool) (ds ls n0 n1 n2 n3 : List Int) (ps : List (List Int)) (kind spot way : Int) (b0 b1 b2 e3 : Bool)
    (h0 : SoundAt Tryz.prog 160 [.agg [.v (.int .i64 W), .v (.int .i64 T), .sl 1 1 (bools cs)], .sl 1 1 (ints ls), .v (.int .i64 spot), .v (.int .i64 way)] (.tup [.os 1 (ints n0), .v (.bool b0)]) [.bot, .bot, .bot, .bot])
    (h1 : SoundAt Tryz.prog 161 [.agg [.v (.int .i64 W), .v (.int .i64 T), .sl 1 1 (bools cs)], .sl 1 1 (ints ls), .v (.int .i64 spot)] (.tup [.os 1 (ints n1), .v (.bool b1)]) [.bot, .bot, .bot])
    (h2 : SoundAt Tryz.prog 162 [.agg [.v (.int .i64 W), .v (.int .i64 T), .sl 1 1 (bools cs)], .sl 1 1 (ints ls), .v (.int .i64 spot)] (.tup [.os 1 (ints n2), .v (.bool b2)]) [.bot, .bot, .bot])
    (h3 : SoundAt Tryz.prog 163 [.agg [.v (.int .i64 W), .v (.int .i64 T), .sl 1 1 (bools cs)], .sl 1 1 (ints ds), .sl 1 1 (ints ls)] (.os 1 (ints n3)) [.bot, .bot, .bot])
    (h4 : SoundAt Tryz.prog 164 [.sl 1 1 (ints n3), .sl 1 1 (ints ls)] (.v (.bool e3)) [.bot, .bot]) :
    SoundAt Tryz.prog n_impl_Book_laidBy [.vp 1 [.v (.int .i64 W), .v (.int .i64 T), .sl 1 1 (bools cs), .sl 1 1 (ints ds), .sl 1 1 (ints ls), .sl 1 1 (sls 1 ps)] 0, deedV kind spot way]
      (.tup [.os 1 (ints (byRes kind n0 n1 n2 n3 b0 b1 b2 (!e3)).1), .v (.bool (byRes kind n0 n1 n2 n3 b0 b1 b2 (!e3)).2)]) [.bot, .bot] := by
  have t0 : (ints n0).take n0.length = ints n0 := take_ints_all n0
  have t1 : (ints n1).take n1.length = ints n1 := take_ints_all n1
  have t2 : (ints n2).take n2.length = ints n2 := take_ints_all n2
  have t3 : (ints n3).take n3.length = ints n3 := take_ints_all n3
  refine fn_ok (md := mdo) (ms := [false, false]) k (by simp) ?_
  by_cases hk0 : kind = 0
  · simp [c_impl_Book_laidBy, hk0, byRes]
    (repeat' first | omega | apply And.intro) <;>
    · refine call_on h0 ?_
      simp [t0]
  by_cases hk1 : kind = 1
  · subst hk1
    simp [c_impl_Book_laidBy, byRes]
    (repeat' first | omega | apply And.intro) <;>
    · refine call_on h1 ?_
      simp [t1]
  by_cases hk2 : kind = 2
  · subst hk2
    simp [c_impl_Book_laidBy, byRes]
    (repeat' first | omega | apply And.intro) <;>
    · refine call_on h2 ?_
      simp [t2]
  by_cases hk3 : kind = 3
  · subst hk3
    simp [c_impl_Book_laidBy, byRes]
    (repeat' first | omega | apply And.intro) <;>
    · refine call_on h3 ?_
      simp
      (repeat' first | omega | apply And.intro) <;>
      · refine call_on h4 ?_
        simp [t3]
  · simp [c_impl_Book_laidBy, hk0, hk1, hk2, hk3, byRes]
end Go.Proofs.Dev
