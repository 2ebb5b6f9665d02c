/- Contracts of the functions of the program over slots and rows, each proved against the program itself; no condition beyond those that each theorem names. -/
import Derived.Test.YtiolbpmhnlmmdaaGreatDoorAP
import Derived.Test.YtiolbpmhnlmmdaaGreatDoorProg
import Derived.Test.YtiolbpmhnlmmdaaGreatDoorAQ
import Derived.Shelf.Strings.Search3
import Derived.Shelf.Strings.Cut
import Derived.Shelf.Strings.Split
import Derived.Shelf.Strconv.AtoiAll
import Derived.Test.YtiolbpmhnlmmdaaGreatDoorAK
import Derived.Test.YtiolbpmhnlmmdaaGreatDoorAI
import Derived.Test.YtiolbpmhnlmmdaaGreatDoorAL
import Derived.Test.YtiolbpmhnlmmdaaGreatDoorAJ

set_option linter.unusedSimpArgs false
set_option linter.unusedVariables false

namespace Go.Proofs.Dev

-- 3 parameters, results [.t 6], 36 slots, modes [true, false, false]
@[simp] abbrev n_spec_l20Corner : Nat := 44

def c_spec_l20Corner : ACode := .seq (.reg [.o 4 .box [.t 1], .o 6 .mv [.k 0]]) <| .seq (.reg [.la 8 3 4, .m 9 2, .o 10 (.call 59 []) [.t 8, .t 9], .m 7 10]) <|
 .seq (.seq (.reg [.m 11 7, .n 12 11, .o 13 (.bin .gtr 0) [.t 12, .k 0], .m 14 13, .mg 15 0 14 true, .g 16 (.call 22 []) [.t 15, .k 3] 14 true,
 .g 17 (.bin .gtr 0) [.t 16, .k 0] 14 true, .o 18 .pick [.t 14, .t 17, .kb false]]) <| .cond (.t 18) ( .seq (.reg [.m 19 7, .m 20 0, .m 21 7, .n 22 21,
 .o 23 (.call 22 []) [.t 20, .t 22], .o 24 (.iadr 1) [.t 19, .t 23], .l 25 24, .m 6 25]) <| .ret) ( .skip)) <| .seq (.reg [.m 26 0, .la 27 3 4,
 .o 28 (.call 60 []) [.t 27], .o 29 (.mnx false) [.t 28, .k 0], .o 30 (.bin .add 0) [.t 29, .k 1], .o 31 (.call 22 []) [.t 26, .t 30], .m 32 0,
 .o 33 (.call 22 []) [.t 32, .k 20], .o 34 (.bin .quo 0) [.t 33, .k 19], .o 35 (.bin .sub 0) [.t 31, .t 34], .m 6 35]) <| .ret

theorem k_spec_l20Corner : cFn Tryz.prog n_spec_l20Corner 36 [.t 6] c_spec_l20Corner := ⟨Tryz.f44, _, Tryz.func44, rfl, by kernel_rfl, by kernel_rfl, by kernel_rfl, by kernel_rfl⟩

-- 2 parameters, results [.c 4 true 3], 87 slots, modes [true, false]
@[simp] abbrev n_spec_l20Deed : Nat := 19
def c_spec_l20Deed_L0 : ACode := .seq (.seq (.reg [.m 35 7, .o 36 (.bin .lss 0) [.t 35, .k 4], .m 37 36, .fg 38 1 5 37 true, .lg 39 38 37 true,
 .fg 40 4 3 37 true, .lg 41 40 37 true, .g 42 (.len false) [.t 41] 37 true, .g 43 (.bin .lss 0) [.t 39, .t 42] 37 true, .o 44 .pick [.t 37, .t 43, .kb false],
 .m 45 44, .fg 46 4 3 45 true, .lg 47 46 45 true, .fg 48 1 5 45 true, .lg 49 48 45 true, .g 50 (.iadr 1) [.t 47, .t 49] 45 true, .lg 51 50 45 true,
 .g 52 (.bin .neq 0) [.t 51, .k 0] 45 true, .o 53 .pick [.t 45, .t 52, .kb false]]) <| .cond (.t 53) ( .skip) ( .exit 1)) <| .seq (.block 2 ( .reg [.f 56 1 5,
 .l 57 56, .o 58 (.bin .add 0) [.t 57, .k 1], .m 59 6, .o 60 (.bin .rem 0) [.t 58, .t 59], .f 61 1 5, .s (.store 1) [.t 61, .t 60]])) <| .reg [.m 54 7,
 .o 55 (.bin .add 0) [.t 54, .k 1], .m 7 55]

def c_spec_l20Deed_T1 : ACode := .seq (.reg [.la 86 3 5, .s (.store 3) [.t 4, .t 86]]) <| .ret

abbrev c_spec_l20Deed_T2_p0 : Plan := .take (.o 83 (.bin .add 0) [.t 80, .t 82]) <| .take (.o 84 (.bin .sub 0) [.t 83, .k 5]) <| .take (.f 85 1 5) <| .al (.s (.store 1) [.t 85, .t 84]) ( .done)
def c_spec_l20Deed_T2 : ACode := .seq (.reg [.f 19 4 3, .l 20 19, .n 21 20, .o 22 (.mnx false) [.t 21, .k 1], .m 6 22]) <| .seq (.seq (.reg [.f 23 0 5,
 .l 24 23]) <| .block 0 ( .seq (.reg [.o 26 (.bin .eql 0) [.t 24, .k 0], .m 25 26]) <| .cond (.t 25) ( .seq (.reg [.m 27 0, .m 28 6, .o 29 (.call 22 []) [.t 27,
 .t 28], .f 30 1 5, .s (.store 1) [.t 30, .t 29]]) <| .seq (.reg [.m 31 0, .o 32 (.call 22 []) [.t 31, .k 4], .o 33 (.bin .add 0) [.k 1, .t 32], .f 34 2 5,
 .s (.store 1) [.t 34, .t 33]]) <| .seq (.reg [.o 7 .mv [.k 0]]) <| .block 1 ( .loop [] [0, 3, 4, 5, 6, 7,
 87] c_spec_l20Deed_L0)) ( .seq (.reg [.o 63 (.bin .eql 0) [.t 24, .k 1], .m 62 63]) <| .cond (.t 62) ( .reg [.m 64 0, .m 65 6, .o 66 (.call 22 []) [.t 64,
 .t 65], .f 67 1 5, .s (.store 1) [.t 67, .t 66]]) ( .seq (.reg [.o 69 (.bin .eql 0) [.t 24, .k 2], .m 68 69]) <| .cond (.t 68) ( .reg [.m 70 0, .f 71 0 3,
 .la 72 3 71, .f 73 4 3, .l 74 73, .o 75 (.call 44 []) [.t 70, .t 72, .t 74], .f 76 1 5, .s (.store 1) [.t 76, .t 75]]) ( .skip))))) <|
 .seq (.seq (.reg [.m 77 0, .o 78 (.call 21 []) [.t 77, .k 30]]) <| .cond (.t 78) ( .draw ( .take (.f 79 1 5) <| .take (.m 81 0) <|
 .alt (.l 80 79) ( .al (.o 82 (.call 22 []) [.t 81, .k 60]) c_spec_l20Deed_T2_p0) <| .al (.o 82 (.call 22 []) [.t 81,
 .k 60]) ( .al (.l 80 79) c_spec_l20Deed_T2_p0))) ( .skip)) <| .gc [] [4, 5, 87] c_spec_l20Deed_T1

abbrev c_spec_l20Deed_p0 : Plan := .al (.o 14 (.call 22 []) [.t 13, .k 60]) ( .take (.o 15 (.bin .quo 0) [.t 14, .k 59]) <| .take (.o 16 (.bin .mul 0) [.t 15, .k 5]) <| .take (.o 17 (.bin .add 0) [.t 12, .t 16]) <| .take (.o 18 (.build dz [(0, 1)]) [.t 17]) <| .al (.s (.store 3) [.t 5, .t 18]) ( .done))
abbrev c_spec_l20Deed_p1 : Plan := .take (.o 17 (.bin .add 0) [.t 12, .t 16]) <| .take (.o 18 (.build dz [(0, 1)]) [.t 17]) <| .al (.s (.store 3) [.t 5, .t 18]) ( .done)
abbrev c_spec_l20Deed_p2 : Plan := .take (.o 11 (.iadr 1) [.t 8, .t 10]) <| .alt (.l 12 11) ( .alt (.o 14 (.call 22 []) [.t 13, .k 60]) ( .take (.o 15 (.bin .quo 0) [.t 14, .k 59]) <| .take (.o 16 (.bin .mul 0) [.t 15, .k 5]) <| .take (.o 17 (.bin .add 0) [.t 12, .t 16]) <| .take (.o 18 (.build dz [(0, 1)]) [.t 17]) <| .al (.o 5 (.alloc dz) []) ( .al (.s (.store 3) [.t 5, .t 18]) ( .done))) <| .al (.o 5 (.alloc dz) []) c_spec_l20Deed_p0) <| .alt (.o 14 (.call 22 []) [.t 13, .k 60]) ( .take (.o 15 (.bin .quo 0) [.t 14, .k 59]) <| .take (.o 16 (.bin .mul 0) [.t 15, .k 5]) <| .alt (.l 12 11) ( .take (.o 17 (.bin .add 0) [.t 12, .t 16]) <| .take (.o 18 (.build dz [(0, 1)]) [.t 17]) <| .al (.o 5 (.alloc dz) []) ( .al (.s (.store 3) [.t 5, .t 18]) ( .done))) <| .al (.o 5 (.alloc dz) []) ( .al (.l 12 11) c_spec_l20Deed_p1)) <| .al (.o 5 (.alloc dz) []) ( .alt (.l 12 11) c_spec_l20Deed_p0 <| .al (.o 14 (.call 22 []) [.t 13, .k 60]) ( .take (.o 15 (.bin .quo 0) [.t 14, .k 59]) <| .take (.o 16 (.bin .mul 0) [.t 15, .k 5]) <| .al (.l 12 11) c_spec_l20Deed_p1))
abbrev c_spec_l20Deed_p3 : Plan := .take (.o 11 (.iadr 1) [.t 8, .t 10]) <| .alt (.l 12 11) c_spec_l20Deed_p0 <| .al (.o 14 (.call 22 []) [.t 13, .k 60]) ( .take (.o 15 (.bin .quo 0) [.t 14, .k 59]) <| .take (.o 16 (.bin .mul 0) [.t 15, .k 5]) <| .al (.l 12 11) c_spec_l20Deed_p1)
abbrev c_spec_l20Deed_p4 : Plan := .alt (.o 8 (.bsl 1) [.k 0, .k 0, .k 0, .k 0, .k 1, .k 2, .k 2, .k 3, .k 4]) c_spec_l20Deed_p3 <| .al (.o 14 (.call 22 []) [.t 13, .k 60]) ( .take (.o 15 (.bin .quo 0) [.t 14, .k 59]) <| .take (.o 16 (.bin .mul 0) [.t 15, .k 5]) <| .al (.o 8 (.bsl 1) [.k 0, .k 0, .k 0, .k 0, .k 1, .k 2, .k 2, .k 3, .k 4]) ( .take (.o 11 (.iadr 1) [.t 8, .t 10]) <| .al (.l 12 11) c_spec_l20Deed_p1))
def c_spec_l20Deed : ACode := .seq (.reg [.o 3 .box [.t 1], .o 4 (.alloc dz) []]) <| .seq (.draw ( .take (.m 9 0) <| .take (.m 13 0) <|
 .alt (.o 8 (.bsl 1) [.k 0, .k 0, .k 0, .k 0, .k 1, .k 2, .k 2, .k 3, .k 4]) ( .alt (.o 10 (.call 22 []) [.t 9, .k 9]) c_spec_l20Deed_p2 <| .al (.o 5 (.alloc dz) []) ( .al (.o 10 (.call 22 []) [.t 9, .k 9]) c_spec_l20Deed_p3)) <|
 .alt (.o 10 (.call 22 []) [.t 9, .k 9]) ( .alt (.o 8 (.bsl 1) [.k 0, .k 0, .k 0, .k 0, .k 1, .k 2, .k 2, .k 3, .k 4]) c_spec_l20Deed_p2 <| .alt (.o 14 (.call 22 []) [.t 13, .k 60]) ( .take (.o 15 (.bin .quo 0) [.t 14, .k 59]) <|
 .take (.o 16 (.bin .mul 0) [.t 15, .k 5]) <| .alt (.o 8 (.bsl 1) [.k 0, .k 0, .k 0, .k 0, .k 1, .k 2, .k 2, .k 3, .k 4]) ( .take (.o 11 (.iadr 1) [.t 8,
 .t 10]) <| .alt (.l 12 11) ( .take (.o 17 (.bin .add 0) [.t 12, .t 16]) <| .take (.o 18 (.build dz [(0, 1)]) [.t 17]) <|
 .al (.o 5 (.alloc dz) []) ( .al (.s (.store 3) [.t 5, .t 18]) ( .done))) <| .al (.o 5 (.alloc dz) []) ( .al (.l 12 11) c_spec_l20Deed_p1)) <| .al (.o 5 (.alloc dz) []) ( .al (.o 8 (.bsl 1) [.k 0,
 .k 0, .k 0, .k 0, .k 1, .k 2, .k 2, .k 3, .k 4]) ( .take (.o 11 (.iadr 1) [.t 8, .t 10]) <| .al (.l 12 11) c_spec_l20Deed_p1))) <| .al (.o 5 (.alloc dz) []) c_spec_l20Deed_p4) <| .al (.o 5 (.alloc dz) []) ( .alt (.o 8 (.bsl 1) [.k 0, .k 0, .k 0, .k 0, .k 1, .k 2, .k 2,
 .k 3, .k 4]) ( .al (.o 10 (.call 22 []) [.t 9, .k 9]) c_spec_l20Deed_p3) <| .al (.o 10 (.call 22 []) [.t 9,
 .k 9]) c_spec_l20Deed_p4))) <| .gc [] [0, 3, 4, 5, 87] c_spec_l20Deed_T2

theorem k_spec_l20Deed : cFn Tryz.prog n_spec_l20Deed 87 [.c 4 true 3] c_spec_l20Deed := ⟨Tryz.f19, _, Tryz.func19, rfl, by kernel_rfl, by kernel_rfl, by kernel_rfl, by kernel_rfl⟩

-- 2 parameters, results [.c 4 true 6], 64 slots, modes [true, false]
@[simp] abbrev n_spec_l20Book : Nat := 20
abbrev c_spec_l20Book_L0_p0 : Plan := .al (.o 30 (.call 47 []) [.t 26, .t 29]) ( .take (.m 25 30) <| .take (.e 31 0 25) <| .take (.e 32 1 25) <| .al (.s (.store 6) [.t 9, .t 31]) ( .take (.m 10 32) <| .done))
abbrev c_spec_l20Book_L0_p1 : Plan := .alt (.o 30 (.call 47 []) [.t 26, .t 29]) ( .take (.m 25 30) <| .take (.e 31 0 25) <| .take (.e 32 1 25) <| .al (.o 9 (.alloc bz) []) ( .al (.s (.store 6) [.t 9, .t 31]) ( .take (.m 10 32) <| .done))) <| .al (.o 9 (.alloc bz) []) c_spec_l20Book_L0_p0
abbrev c_spec_l20Book_L0_p2 : Plan := .al (.o 29 (.call 19 []) [.t 27, .t 28]) c_spec_l20Book_L0_p0
abbrev c_spec_l20Book_L0_p3 : Plan := .alt (.la 26 6 7) c_spec_l20Book_L0_p2 <| .al (.o 29 (.call 19 []) [.t 27, .t 28]) ( .al (.la 26 6 7) c_spec_l20Book_L0_p0)
abbrev c_spec_l20Book_L0_p4 : Plan := .alt (.o 29 (.call 19 []) [.t 27, .t 28]) c_spec_l20Book_L0_p1 <| .al (.o 9 (.alloc bz) []) c_spec_l20Book_L0_p2
def c_spec_l20Book_L0 : ACode := .seq (.seq (.reg [.m 21 8, .o 22 (.bin .gtr 0) [.t 21, .k 0]]) <| .cond (.t 22) ( .skip) ( .exit 0)) <|
 .seq (.block 1 ( .seq (.draw ( .take (.m 27 0) <| .alt (.la 26 6 7) ( .alt (.la 28 6 7) c_spec_l20Book_L0_p4 <|
 .al (.o 9 (.alloc bz) []) ( .al (.la 28 6 7) c_spec_l20Book_L0_p2)) <|
 .alt (.la 28 6 7) ( .alt (.la 26 6 7) c_spec_l20Book_L0_p4 <|
 .alt (.o 29 (.call 19 []) [.t 27, .t 28]) ( .alt (.la 26 6 7) c_spec_l20Book_L0_p1 <| .al (.o 9 (.alloc bz) []) ( .al (.la 26 6 7) c_spec_l20Book_L0_p0)) <|
 .al (.o 9 (.alloc bz) []) c_spec_l20Book_L0_p3) <|
 .al (.o 9 (.alloc bz) []) ( .alt (.la 26 6 7) ( .al (.la 28 6 7) c_spec_l20Book_L0_p2) <|
 .al (.la 28 6 7) c_spec_l20Book_L0_p3))) <| .seq (.reg [.m 33 10]) <| .cond (.t 33) ( .reg [.la 34 6 9, .s (.store 6) [.t 7,
 .t 34]]) ( .skip))) <| .reg [.m 23 8, .o 24 (.bin .sub 0) [.t 23, .k 1], .m 8 24]

def c_spec_l20Book : ACode := .seq (.reg [.o 4 (.alloc bz) []]) <| .seq (.reg [.m 12 0, .o 13 (.call 45 []) [.t 12, .k 0], .m 11 13, .e 14 0 11, .e 15 1 11,
 .o 5 (.alloc rz) [], .s (.store 3) [.t 5, .t 14], .m 6 15]) <| .seq (.reg [.la 16 3 5, .m 17 6, .o 18 (.call 46 []) [.t 16, .t 17], .o 7 (.alloc bz) [],
 .s (.store 6) [.t 7, .t 18]]) <| .seq (.seq (.reg [.m 19 0, .o 20 (.call 22 []) [.t 19, .k 14], .m 8 20]) <| .block 0 ( .loop [] [0, 1, 4, 7, 8,
 64] c_spec_l20Book_L0)) <| .seq (.seq (.reg [.m 35 0, .m 36 1, .o 37 (.call 21 []) [.t 35, .t 36]]) <| .cond (.t 37) ( .seq (.reg [.m 38 0,
 .o 39 (.call 22 []) [.t 38, .k 4]]) <| .block 2 ( .seq (.reg [.o 46 (.bin .eql 0) [.t 39, .k 0], .m 45 46]) <| .cond (.t 45) ( .reg [.f 47 4 7, .l 48 47,
 .o 49 (.bsl 1) [.k 0], .o 50 (.app 1 8 true) [.t 48, .t 49], .f 51 4 7, .s (.store 1) [.t 51, .t 50]]) ( .seq (.reg [.o 53 (.bin .eql 0) [.t 39, .k 1],
 .m 52 53]) <| .cond (.t 52) ( .reg [.f 54 5 7, .l 55 54, .o 56 (.bsl 1) [.k 9], .o 57 (.bsl 1) [.t 56], .o 58 (.app 1 24 false) [.t 55, .t 57], .f 59 5 7,
 .s (.store 1) [.t 59, .t 58]]) ( .seq (.reg [.o 61 (.bin .eql 0) [.t 39, .k 2], .m 60 61]) <| .cond (.t 60) ( .seq (.reg [.o 62 (.build bz []) [],
 .s (.store 6) [.t 4, .t 62]]) <| .ret) ( .reg [.f 40 3 7, .l 41 40, .o 42 (.bsl 1) [.k 0], .o 43 (.app 1 8 true) [.t 41, .t 42], .f 44 3 7,
 .s (.store 1) [.t 44, .t 43]]))))) ( .skip)) <| .seq (.reg [.la 63 6 7, .s (.store 6) [.t 4, .t 63]]) <| .ret

theorem k_spec_l20Book : cFn Tryz.prog n_spec_l20Book 64 [.c 4 true 6] c_spec_l20Book := ⟨Tryz.f20, _, Tryz.func20, rfl, by kernel_rfl, by kernel_rfl, by kernel_rfl, by kernel_rfl⟩

-- 2 parameters, results [.t 4], 35 slots, modes [true, false]
@[simp] abbrev n_spec_l20Deeds : Nat := 56
end Go.Proofs.Dev

namespace Go.Proofs.Dev
set_option linter.unusedSimpArgs false
set_option maxRecDepth 100000

/-- Who takes ownership: of the reader. -/
@[simp] def md8 (f : Nat) : List Bool := if f = n_spec_l20Corner then [true, false, false] else if f = n_spec_l20Deed ∨ f = n_spec_l20Book ∨ f = n_spec_l20Deeds then [true, false] else if f = 999999 ∨ f = 999999 ∨ f = 999999 ∨ f = 999999 ∨ f = 999999 ∨ f = 999999 then [true] else md5 f

def cornSet (bs : List Int) (p : Nat) (r : AV) (ups : List AV) : Prop := ∃ (x : Int) (q : Nat), -1 ≤ x ∧ x ≤ 49 ∧ q ≤ p + 3 ∧ r = .v (.int .i64 x) ∧ ups = [rdA bs q, .bot, .bot]

theorem s_spec_l20Corner (bs : List Int) (p : Nat) (W T : Int) (cs : List Bool) (ls : List Int) (hb : bs.length ≤ 2000) (hB : Byt bs) (hp : p < 2 ^ 39) (hc : cs.length < 2 ^ 40) (hl : ls.length < 2 ^ 40) :
    SoundSet Tryz.prog n_spec_l20Corner [rdA bs p, .agg [.v (.int .i64 W), .v (.int .i64 T), .sl 1 1 (bools cs)], .sl 1 1 (ints ls)] (cornSet bs p) := by
  refine fn_okS (md := md8) (ms := [true, false, false]) k_spec_l20Corner (by simp) ?_
  have fl := s_spec_FlipsOf W T cs ls hc hl
  have h49 := flipsTo_length W T cs ls (corN W T cs)
  have hn49 := corN_le W T cs
  have hmem := @flipsTo_mem W T cs ls (corN W T cs)
  change (flipsI W T cs ls).length ≤ _ at h49
  change ∀ {x : Int}, x ∈ flipsI W T cs ls → _ at hmem
  have cm := s_spec_CornerMany W T cs hc
  obtain ⟨M, hM, m1, m2⟩ : ∃ M : Int, (if regB W T cs = true then corI W T else -1) = M ∧ -1 ≤ M ∧ M ≤ 49 := by
    refine ⟨_, rfl, ?_⟩
    split
    · rename_i hr
      obtain ⟨w1, w2, t1, t2, _⟩ := regB_W hr
      have := cor_in w1 w2 t1 t2
      omega
    · omega
  rw [hM] at cm
  generalize flipsI W T cs ls = fs at *
  simp [c_spec_l20Corner]
  refine call_on fl ?_
  by_cases hz : fs = []
  · subst hz
    simp
    refine call_on cm ?_
    simp
    refine ⟨by split <;> omega, ?_⟩
    refine call_onK (s_spec_l20Rd_pick bs p ((if M < 0 then 0 else M) + 1) hb hB (by omega)) [0] (by simp) (by simp) (by simp) ?_
    rintro _ _ ⟨x, x0, x1, rfl, rfl⟩
    simp
    refine call_onK (s_spec_l20Rd_pick bs (p + 1) 20 hb hB (by omega)) [0] (by simp) (by simp) (by simp) ?_
    rintro _ _ ⟨y, y0, y1, rfl, rfl⟩
    simp
    have hx : x ≤ 49 := by split at x1 <;> omega
    refine ⟨by omega, by omega, _, _, ⟨x - y / 19, p + 1 + 1, by omega, by omega, by omega, rfl, rfl⟩, ?_⟩
    simp
  · have hz0 : 0 < fs.length := by
      cases fs with
      | nil => exact absurd rfl hz
      | cons a l => simp
    have hz1 : (0 : Int) < fs.length := by omega
    simp [hz, hz0, hz1]
    refine call_onK (s_spec_l20Rd_pick bs p 3 hb hB (by omega)) [0] (by simp) (by simp) (by simp) ?_
    rintro _ _ ⟨x, x0, x1, rfl, rfl⟩
    by_cases hx : 0 < x
    · simp [hx]
      refine call_onK (s_spec_l20Rd_pick bs (p + 1) fs.length hb hB (by omega)) [0] (by simp) (by simp) (by simp) ?_
      rintro _ _ ⟨y, y0, y1, rfl, rfl⟩
      have y2 : y < fs.length := by omega
      have hy : ati fs y ∈ fs := by
        have : y.toNat < fs.length := by omega
        simp [ati, this]
      have := hmem hy
      have hg : (ints fs)[y.toNat]? = some (.v (.int .i64 (ati fs y))) := ints_get (by omega)
      have hmx : max y 0 = y := by omega
      simp [y0, y2, hg, hmx]
      refine ⟨_, _, ⟨ati fs y, p + 1 + 1, by omega, by omega, by omega, rfl, rfl⟩, ?_⟩
      simp
    · simp [hx]
      refine call_on cm ?_
      simp
      refine ⟨by split <;> omega, ?_⟩
      refine call_onK (s_spec_l20Rd_pick bs (p + 1) ((if M < 0 then 0 else M) + 1) hb hB (by omega)) [0] (by simp) (by simp) (by simp) ?_
      rintro _ _ ⟨z, z0, z1, rfl, rfl⟩
      simp
      refine call_onK (s_spec_l20Rd_pick bs (p + 1 + 1) 20 hb hB (by omega)) [0] (by simp) (by simp) (by simp) ?_
      rintro _ _ ⟨y, y0, y1, rfl, rfl⟩
      simp
      have hx : z ≤ 49 := by split at z1 <;> omega
      refine ⟨by omega, by omega, _, _, ⟨z - y / 19, p + 1 + 1 + 1, by omega, by omega, by omega, rfl, rfl⟩, ?_⟩
      simp

def deedSet (bs : List Int) (p : Nat) (r : AV) (ups : List AV) : Prop := ∃ (k s w : Int) (q : Nat), 0 ≤ k ∧ k ≤ 20 ∧ -100 ≤ s ∧ s ≤ 200 ∧ 0 ≤ w ∧ w ≤ 4 ∧ q ≤ p + 10 ∧ r = deedV k s w ∧ ups = [rdA bs q, .bot]

abbrev nd9 : List AV := [AV.v (.int .i64 0), AV.v (.int .i64 0), AV.v (.int .i64 0), AV.v (.int .i64 0), AV.v (.int .i64 1), AV.v (.int .i64 2), AV.v (.int .i64 2), AV.v (.int .i64 3), AV.v (.int .i64 4)]
theorem nd9get {x : Int} (h0 : 0 ≤ x) (h1 : x < 9) : ∃ v : Int, 0 ≤ v ∧ v ≤ 4 ∧ ∀ h : x.toNat < nd9.length, nd9[x.toNat]'h = .v (.int .i64 v) := by
  obtain rfl | rfl | rfl | rfl | rfl | rfl | rfl | rfl | rfl : x = 0 ∨ x = 1 ∨ x = 2 ∨ x = 3 ∨ x = 4 ∨ x = 5 ∨ x = 6 ∨ x = 7 ∨ x = 8 := by omega
  · exact ⟨0, by decide, by decide, fun _ => rfl⟩
  · exact ⟨0, by decide, by decide, fun _ => rfl⟩
  · exact ⟨0, by decide, by decide, fun _ => rfl⟩
  · exact ⟨0, by decide, by decide, fun _ => rfl⟩
  · exact ⟨1, by decide, by decide, fun _ => rfl⟩
  · exact ⟨2, by decide, by decide, fun _ => rfl⟩
  · exact ⟨2, by decide, by decide, fun _ => rfl⟩
  · exact ⟨3, by decide, by decide, fun _ => rfl⟩
  · exact ⟨4, by decide, by decide, fun _ => rfl⟩

abbrev dedF (bs : List Int) (p : Nat) := FinS [RV.c 4 true 3] 87 2 [true, false] (deedSet bs p)
abbrev dedH (bs : List Int) (q : Nat) (W T : Int) (cs : List Bool) (ds ls : List Int) (ps : List (List Int)) (k s w : Int) : Heap :=
  [some (.box [.sl 0 1 (u8s bs), .v (.int .i64 q)]), some (.box [.v (.int .i64 W), .v (.int .i64 T), .sl 1 1 (bools cs), .sl 1 1 (ints ds), .sl 1 1 (ints ls), .sl 1 1 (sls 1 ps)]), some (.box [.v (.int .i64 0), .v (.int .i64 0), .v (.int .i64 0)]),
    some (.box [.v (.int .i64 k), .v (.int .i64 s), .v (.int .i64 w)])]

abbrev c_dedTail_p0 : Plan := .take (.o 83 (.bin .add 0) [.t 80, .t 82]) <| .take (.o 84 (.bin .sub 0) [.t 83, .k 5]) <| .take (.f 85 1 5) <| .al (.s (.store 1) [.t 85, .t 84]) ( .done)
def c_dedTail : ACode := .seq (.seq (.reg [.m 77 0, .o 78 (.call 21 []) [.t 77, .k 30]]) <| .cond (.t 78) ( .draw ( .take (.f 79 1 5) <| .take (.m 81 0) <|
 .alt (.l 80 79) ( .al (.o 82 (.call 22 []) [.t 81, .k 60]) c_dedTail_p0) <| .al (.o 82 (.call 22 []) [.t 81,
 .k 60]) ( .al (.l 80 79) c_dedTail_p0))) ( .skip)) <| .gc [] [4, 5, 87] c_spec_l20Deed_T1
def c_dedSw : ACode := .block 0 ( .seq (.reg [.o 26 (.bin .eql 0) [.t 24, .k 0], .m 25 26]) <| .cond (.t 25) ( .seq (.reg [.m 27 0, .m 28 6,
 .o 29 (.call 22 []) [.t 27, .t 28], .f 30 1 5, .s (.store 1) [.t 30, .t 29]]) <| .seq (.reg [.m 31 0, .o 32 (.call 22 []) [.t 31, .k 4],
 .o 33 (.bin .add 0) [.k 1, .t 32], .f 34 2 5, .s (.store 1) [.t 34, .t 33]]) <| .seq (.reg [.o 7 .mv [.k 0]]) <| .block 1 ( .loop [] [0, 3, 4, 5, 6, 7,
 87] c_spec_l20Deed_L0)) ( .seq (.reg [.o 63 (.bin .eql 0) [.t 24, .k 1], .m 62 63]) <| .cond (.t 62) ( .reg [.m 64 0, .m 65 6, .o 66 (.call 22 []) [.t 64,
 .t 65], .f 67 1 5, .s (.store 1) [.t 67, .t 66]]) ( .seq (.reg [.o 69 (.bin .eql 0) [.t 24, .k 2], .m 68 69]) <| .cond (.t 68) ( .reg [.m 70 0, .f 71 0 3,
 .la 72 3 71, .f 73 4 3, .l 74 73, .o 75 (.call 44 []) [.t 70, .t 72, .t 74], .f 76 1 5, .s (.store 1) [.t 76, .t 75]]) ( .skip))))
theorem ded_parts : c_spec_l20Deed_T2 = .seq (.reg [.f 19 4 3,
    .l 20 19,
    .n 21 20,
    .o 22 (.mnx false) [.t 21, .k 1],
    .m 6 22]) (.seq (.seq (.reg [.f 23 0 5,
    .l 24 23]) c_dedSw) c_dedTail) := rfl

theorem ded_end (bs : List Int) (p q : Nat) (k s w : Int) (hq : q ≤ p + 10) (hk : 0 ≤ k ∧ k ≤ 20) (hs : -100 ≤ s ∧ s ≤ 200) (hw : 0 ≤ w ∧ w ≤ 4) :
    awp Tryz.prog md8 c_spec_l20Deed_T1 (dedF bs p) [(4, .lp 0 0 0 0), (5, .lp 0 1 0 0), (87, .lp 0 2 0 0)]
      [some (.box [.v (.int .i64 0), .v (.int .i64 0), .v (.int .i64 0)]), some (.box [.v (.int .i64 k), .v (.int .i64 s), .v (.int .i64 w)]), some (.box [.sl 0 1 (u8s bs), .v (.int .i64 q)])] := by
  simp [c_spec_l20Deed_T1]
  refine ⟨_, _, ⟨k, s, w, q, hk.1, hk.2, hs.1, hs.2, hw.1, hw.2, hq, rfl, rfl⟩, ?_⟩
  simp

theorem ded_tail (bs : List Int) (p q : Nat) (W T : Int) (cs : List Bool) (ds ls : List Int) (ps : List (List Int)) (k s w : Int) (hb : bs.length ≤ 2000) (hB : Byt bs) (hp : p < 2 ^ 38) (hq : q ≤ p + 8) (hk : 0 ≤ k ∧ k ≤ 20) (hs : -90 ≤ s ∧ s ≤ 140) (hw : 0 ≤ w ∧ w ≤ 4) (E : ES)
    (e0 : get E 0 = .lp 0 0 0 0) (e4 : get E 4 = .lp 0 2 0 0) (e5 : get E 5 = .lp 0 3 0 0) (e87 : get E 87 = .lp 0 0 0 0) :
    awp Tryz.prog md8 c_dedTail (dedF bs p) E (dedH bs q W T cs ds ls ps k s w) := by
  simp [c_dedTail, e0, e4, e5, e87]
  refine call_onK (s_spec_l20Rd_odd bs q 30 hb hB (by omega) (by omega)) [0] (by simp) (by simp) (by simp) ?_
  rintro _ _ ⟨b, q2, rfl, hq2, rfl⟩
  cases b with
  | false =>
    simp [get_purgeE, e0, e4, e5, e87]
    exact ded_end bs p q2 k s w (by omega) hk (by omega) hw
  | true =>
    simp [get_purgeE, e0, e4, e5, e87]
    (repeat' first | omega | apply And.intro) <;>
    · refine call_onK (s_spec_l20Rd_pick bs q2 60 hb hB (by omega)) [0] (by simp) (by simp) (by simp) ?_
      rintro _ _ ⟨x, x0, x1, rfl, rfl⟩
      simp [get_purgeE, e0, e4, e5, e87]
      exact ⟨by omega, by omega, ded_end bs p (q2 + 1) k (s + x - 5) w (by omega) hk (by omega) hw⟩

theorem ded_loop (bs : List Int) (q : Nat) (W T : Int) (cs : List Bool) (ds ls : List Int) (ps : List (List Int)) (k s w : Int) (hl : ls.length ≤ 40) (n : Int) (hn : n = if (ls.length : Int) < 1 then 1 else (ls.length : Int)) (hs : 0 ≤ s ∧ s < n) (Qc : AExit → ES → Heap → Prop)
    (hend : ∀ (s : Int) (E : ES), 0 ≤ s → s ≤ 40 → get E 0 = .lp 0 0 0 0 → get E 4 = .lp 0 2 0 0 → get E 5 = .lp 0 3 0 0 → get E 87 = .lp 0 0 0 0 → Qc (.exit 1) E (dedH bs q W T cs ds ls ps k s w)) :
    loopNode [] [0, 3, 4, 5, 6, 7, 87] (awp Tryz.prog md8 c_spec_l20Deed_L0) Qc
      [(0, .lp 0 0 0 0), (3, .lp 0 1 0 0), (4, .lp 0 2 0 0), (5, .lp 0 3 0 0), (6, .v (.int .i64 n)), (7, .v (.int .i64 0)), (87, .lp 0 0 0 0)] (dedH bs q W T cs ds ls ps k s w) := by
  have n40 : 1 ≤ n ∧ n ≤ 40 := by rw [hn]; split <;> omega
  refine loop_by (fun m E H => ∃ (i : Nat) (s : Int), m = 4 - i ∧ i ≤ 4 ∧ 0 ≤ s ∧ s < n ∧ E = [(0, .lp 0 0 0 0), (3, .lp 0 1 0 0), (4, .lp 0 2 0 0), (5, .lp 0 3 0 0), (6, .v (.int .i64 n)), (7, .v (.int .i64 i)), (87, .lp 0 0 0 0)] ∧
    H = dedH bs q W T cs ds ls ps k s w) 4 ⟨0, s, rfl, by omega, hs.1, hs.2, rfl, rfl⟩ ?_
  rintro J hJ m E H ⟨i, s, rfl, hi, s0, s1, rfl, rfl⟩
  by_cases h4 : i < 4
  case neg =>
    have : i = 4 := by omega
    subst this
    simp [c_spec_l20Deed_L0]
    exact hend s _ s0 (by omega) rfl rfl rfl rfl
  have h4' : (i : Int) < 4 := by omega
  by_cases hsl : s < ls.length
  case neg =>
    simp [c_spec_l20Deed_L0, h4', hsl]
    exact hend s _ s0 (by omega) rfl rfl rfl rfl
  by_cases hz : ati ls s = 0
  · simp [c_spec_l20Deed_L0, h4', hsl, s0, hz]
    exact hend s _ s0 (by omega) rfl rfl rfl rfl
  · have r0 := Int.emod_nonneg (s + 1) (show n ≠ 0 by omega)
    have r1 := Int.emod_lt_of_pos (s + 1) (show 0 < n by omega)
    simp [c_spec_l20Deed_L0, h4', hsl, s0, hz]
    exact ⟨by omega, by omega, by omega, _, by omega, hJ _ _ _ ⟨i + 1, (s + 1) % n, rfl, by omega, r0, r1, by simp, rfl⟩⟩

set_option maxHeartbeats 2000000 in
theorem ded_T2 (bs : List Int) (p q : Nat) (W T : Int) (cs : List Bool) (ds ls : List Int) (ps : List (List Int)) (k : Int) (hb : bs.length ≤ 2000) (hB : Byt bs) (hp : p < 2 ^ 38) (hc : cs.length ≤ 40) (hd : ds.length ≤ 40) (hl : ls.length ≤ 40)
    (hq : q ≤ p + 2) (hk : 0 ≤ k ∧ k ≤ 20) :
    awp Tryz.prog md8 c_spec_l20Deed_T2 (dedF bs p) [(0, .lp 0 0 0 0), (3, .lp 0 1 0 0), (4, .lp 0 2 0 0), (5, .lp 0 3 0 0), (87, .lp 0 0 0 0)] (dedH bs q W T cs ds ls ps k 0 0) := by
  have n40 : 1 ≤ (if (ls.length : Int) < 1 then 1 else (ls.length : Int)) ∧ (if (ls.length : Int) < 1 then 1 else (ls.length : Int)) ≤ 40 := by split <;> omega
  have pkn : SoundSet Tryz.prog n_spec_l20Rd_pick [rdA bs q, .v (.int .i64 (if (ls.length : Int) < 1 then 1 else (ls.length : Int)))] (pickSet bs (if (ls.length : Int) < 1 then 1 else (ls.length : Int)) q) := s_spec_l20Rd_pick bs q _ hb hB (by omega)
  rw [ded_parts]
  simp
  by_cases h0 : k = 0
  · subst h0
    simp [c_dedSw]
    refine call_onK pkn [0] (by simp) (by simp) (by simp) ?_
    rintro _ _ ⟨x, x0, x1, rfl, rfl⟩
    simp
    refine call_onK (s_spec_l20Rd_pick bs (q + 1) 4 hb hB (by omega)) [0] (by simp) (by simp) (by simp) ?_
    rintro _ _ ⟨y, y0, y1, rfl, rfl⟩
    simp
    refine ⟨by omega, ?_⟩
    refine ded_loop bs (q + 1 + 1) W T cs ds ls ps 0 x (1 + y) hl (if (ls.length : Int) < 1 then 1 else (ls.length : Int)) rfl (by omega) _ ?_
    intro s E s0 s1 e0 e4 e5 e87
    simp
    exact ded_tail bs p (q + 1 + 1) W T cs ds ls ps 0 s (1 + y) hb hB hp (by omega) hk (by omega) (by omega) E e0 e4 e5 e87
  by_cases h1 : k = 1
  · subst h1
    simp [c_dedSw]
    refine call_onK pkn [0] (by simp) (by simp) (by simp) ?_
    rintro _ _ ⟨x, x0, x1, rfl, rfl⟩
    simp
    exact ded_tail bs p (q + 1) W T cs ds ls ps 1 x 0 hb hB hp (by omega) hk (by omega) (by omega) _ rfl rfl rfl rfl
  by_cases h2 : k = 2
  · subst h2
    simp [c_dedSw]
    refine call_onK (s_spec_l20Corner bs q W T cs ls hb hB (by omega) (by omega) (by omega)) [0] (by simp) (by simp) (by simp) ?_
    rintro _ _ ⟨x, q2, x0, x1, hq2, rfl, rfl⟩
    simp
    exact ded_tail bs p q2 W T cs ds ls ps 2 x 0 hb hB hp (by omega) hk (by omega) (by omega) _ rfl rfl rfl rfl
  · simp [c_dedSw, h0, h1, h2]
    exact ded_tail bs p q W T cs ds ls ps k 0 0 hb hB hp (by omega) hk (by omega) (by omega) _ rfl rfl rfl rfl

set_option maxHeartbeats 20000000 in
theorem s_spec_l20Deed (bs : List Int) (p : Nat) (W T : Int) (cs : List Bool) (ds ls : List Int) (ps : List (List Int)) (hb : bs.length ≤ 2000) (hB : Byt bs) (hp : p < 2 ^ 38) (hc : cs.length ≤ 40) (hd : ds.length ≤ 40) (hl : ls.length ≤ 40) :
    SoundSet Tryz.prog n_spec_l20Deed [rdA bs p, bkA W T cs ds ls ps] (deedSet bs p) := by
  refine fn_okS (md := md8) (ms := [true, false]) k_spec_l20Deed (by simp) ?_
  have pk9 : ∀ q, q ≤ p + 2 → SoundSet Tryz.prog n_spec_l20Rd_pick [rdA bs q, .v (.int .i64 9)] (pickSet bs 9 q) := fun q hq => s_spec_l20Rd_pick bs q 9 hb hB (by omega)
  have pk60 : ∀ q, q ≤ p + 2 → SoundSet Tryz.prog n_spec_l20Rd_pick [rdA bs q, .v (.int .i64 60)] (pickSet bs 60 q) := fun q hq => s_spec_l20Rd_pick bs q 60 hb hB (by omega)
  have fin : ∀ (q : Nat) (k : Int), q ≤ p + 2 → 0 ≤ k ∧ k ≤ 20 → awp Tryz.prog md8 c_spec_l20Deed_T2 (dedF bs p) [(0, .lp 0 0 0 0), (3, .lp 0 1 0 0), (4, .lp 0 2 0 0), (5, .lp 0 3 0 0), (87, .lp 0 0 0 0)] (dedH bs q W T cs ds ls ps k 0 0) :=
    fun q k hq hk => ded_T2 bs p q W T cs ds ls ps k hb hB hp hc hd hl hq hk
  simp [c_spec_l20Deed]
  repeat' first
    | omega
    | apply And.intro
    | (refine call_onK (pk9 p (by omega)) [0] ?_ ?_ ?_ ?_
       · simp
       · simp
       · simp
       rintro _ _ ⟨x, x0, x1, rfl, rfl⟩
       obtain ⟨v, v0, v4, hv⟩ := nd9get x0 (by omega)
       have x9 : x < 9 := by omega
       simp [x0, hv, x9])
    | (refine call_onK (pk9 (p + 1) (by omega)) [0] ?_ ?_ ?_ ?_
       · simp
       · simp
       · simp
       rintro _ _ ⟨x, x0, x1, rfl, rfl⟩
       obtain ⟨v, v0, v4, hv⟩ := nd9get x0 (by omega)
       have x9 : x < 9 := by omega
       simp [x0, hv, x9])
    | (refine call_onK (pk60 (p + 1) (by omega)) [0] ?_ ?_ ?_ ?_
       · simp
       · simp
       · simp
       rintro _ _ ⟨y, y0, y1, rfl, rfl⟩
       simp [x0, hv, x9])
    | (refine call_onK (pk60 p (by omega)) [0] ?_ ?_ ?_ ?_
       · simp
       · simp
       · simp
       rintro _ _ ⟨y, y0, y1, rfl, rfl⟩
       simp)
    | (refine fin (p + 1 + 1) _ (by omega) ?_)
end Go.Proofs.Dev

namespace Go.Proofs.Dev
set_option linter.unusedSimpArgs false
set_option maxRecDepth 100000

/-- A book is as it was drawn. -/
def bookSet (bs : List Int) (p d : Nat) (r : AV) (ups : List AV) : Prop := ∃ (W T : Int) (cs : List Bool) (ds ls : List Int) (ps : List (List Int)) (q : Nat), cs.length ≤ 37 ∧ ds.length ≤ 38 ∧ ls.length ≤ 38 ∧ ps.length ≤ 21 ∧ (∀ x ∈ ps, x.length ≤ 37) ∧ q ≤ p + d ∧
  r = bkO W T cs ds ls ps ∧ ups = [rdA bs q, .bot]

/-- Valid, or none at all. -/
def bookOk (W T : Int) (cs : List Bool) (ds ls : List Int) (ps : List (List Int)) : Prop := bookB W T cs ds ls ps = true ∨ (cs = [] ∧ ds = [] ∧ ls = [] ∧ ps = [])

theorem bookOk_len {W T : Int} {cs : List Bool} {ds ls : List Int} {ps : List (List Int)} (h : bookOk W T cs ds ls ps) : cs.length ≤ 36 ∧ ds.length ≤ 36 ∧ ls.length ≤ 36 ∧ ps.length ≤ 20 ∧ ∀ x ∈ ps, x.length ≤ 36 := by
  rcases h with h | ⟨rfl, rfl, rfl, rfl⟩
  · obtain ⟨h1, h2, h3⟩ := book_parts h
    obtain ⟨a1, a2, a3⟩ := fair_len h1
    refine ⟨a1, by omega, by omega, h2, fun x hx => ?_⟩
    have := fair_len (h3 x hx)
    omega
  · simp

theorem bare_lays {W T : Int} {cs : List Bool} : laysB W T cs (noneL cs) = true := by
  simp only [laysB, Bool.and_eq_true, decide_eq_true_eq, allB_iff]
  refine ⟨by simp [noneL], fun k hk => ?_⟩
  have : ati (noneL cs) k = 0 := by
    simp only [noneL, List.length_replicate] at hk
    simp [ati, noneL, hk]
  simp [layAt, this]
theorem none_ati (cs : List Bool) (k : Nat) : ati (noneL cs) k = 0 := by
  simp only [ati, noneL, Int.toNat_natCast, List.getD_eq_getElem?_getD]
  by_cases h : k < cs.length
  · simp [h]
  · simp [h]
theorem bare_fair {W T : Int} {cs : List Bool} {ds : List Int} (hr : regB W T cs = true) (hd : digsB cs ds = true) : fairB W T cs ds (noneL cs) = true := by
  refine fair_of hr hd bare_lays ?_
  have : pairsI W T ds (noneL cs) = [] := by
    simp [pairsI, pairsTo, none_ati]
  rw [this]; rfl

theorem new_ok (W T : Int) (cs : List Bool) (ds : List Int) : ∃ (W2 T2 : Int) (cs2 : List Bool) (ds2 ls2 : List Int), newB W T cs ds = bkO W2 T2 cs2 ds2 ls2 [] ∧ bookOk W2 T2 cs2 ds2 ls2 [] := by
  unfold newB
  split
  · rename_i h
    simp only [Bool.and_eq_true] at h
    exact ⟨W, T, cs, ds, noneL cs, rfl, .inl (book_of (bare_fair h.1 h.2) (by simp) (by simp))⟩
  · exact ⟨0, 0, [], [], [], rfl, .inr ⟨rfl, rfl, rfl, rfl⟩⟩

/-- What is laid after a deed is fair, and so is what is past. -/
theorem do_ok {W T : Int} {cs : List Bool} {ds ls : List Int} {ps : List (List Int)} (k s w : Int) (h : bookB W T cs ds ls ps = true) : bookB W T cs ds (doI W T cs ds ls ps k s w).2.1 (doI W T cs ds ls ps k s w).2.2 = true := by
  obtain ⟨h1, h2, h3⟩ := book_parts h
  unfold doI doRes
  split
  · exact h
  split
  · rcases List.eq_nil_or_concat ps with rfl | ⟨qs, q, hq⟩
    · exact h
    · rw [List.concat_eq_append] at hq
      subst hq
      simp only [List.getLast?_append, List.getLast?_singleton, Option.some_or, List.dropLast_concat]
      simp at h2
      exact book_of (h3 q (by simp)) (by omega) (fun p hp => h3 p (by simp [hp]))
  split
  · rename_i hb
    simp only [Bool.and_eq_true] at hb
    refine book_of hb.2 ?_ ?_
    · simp [bkPast]; omega
    · intro p hp
      have := List.mem_of_mem_drop hp
      simp at this
      rcases this with h4 | rfl
      · exact h3 p h4
      · exact h1
  · exact h

theorem bdo (W T : Int) (cs : List Bool) (ds ls : List Int) (ps : List (List Int)) (k s w : Int) (hk : bookOk W T cs ds ls ps) :
    ∃ (d : Bool) (W2 T2 : Int) (cs2 : List Bool) (ds2 ls2 : List Int) (ps2 : List (List Int)), SoundAt Tryz.prog n_spec_BookDo [bkA W T cs ds ls ps, deedV k s w] (.tup [bkO W2 T2 cs2 ds2 ls2 ps2, .v (.bool d)]) [.bot, .bot] ∧ bookOk W2 T2 cs2 ds2 ls2 ps2 := by
  obtain ⟨a1, a2, a3, a4, a5⟩ := bookOk_len hk
  have := s_spec_BookDo W T cs ds ls ps k s w (by omega) (by omega) (by omega) (by omega) (fun p hp => by have := a5 p hp; omega)
  cases hb : bookB W T cs ds ls ps with
  | true =>
    rw [hb] at this
    simp only [if_true] at this
    exact ⟨_, _, _, _, _, _, _, this, .inl (do_ok k s w hb)⟩
  | false =>
    rw [hb] at this
    exact ⟨_, _, _, _, _, _, _, this, .inr ⟨rfl, rfl, rfl, rfl⟩⟩

abbrev bkcs (i : Nat) (W T : Int) (cs : List Bool) (ds ls : List Int) (ps : List (List Int)) : List AV := [.v (.int .i64 W), .v (.int .i64 T), .ls 1 i 0 cs.length, .ls 1 (i + 1) 0 ds.length, .ls 1 (i + 2) 0 ls.length, .ls 1 (i + 3) 0 ps.length]
abbrev bookH (bs : List Int) (q : Nat) (W T : Int) (cs : List Bool) (ds ls : List Int) (ps : List (List Int)) : Heap :=
  [some (.box [.sl 0 1 (u8s bs), .v (.int .i64 q)]), some (.box [.v (.int .i64 0), .v (.int .i64 0), .os 1 [], .os 1 [], .os 1 [], .os 1 []]),
    some (.box (bkcs 3 W T cs ds ls ps)), some (.arr 1 (bools cs)), some (.arr 1 (ints ds)), some (.arr 1 (ints ls)), some (.arr 1 (oss ps))]
abbrev bookE (n : Int) (i : Int) : ES := [(0, .lp 0 0 0 0), (1, .v (.int .i64 n)), (4, .lp 0 1 0 0), (7, .lp 0 2 0 0), (8, .v (.int .i64 i)), (64, .lp 0 0 0 0)]

set_option maxHeartbeats 20000000 in
theorem book_L0 (bs : List Int) (p q : Nat) (n : Int) (m : Nat) (W T : Int) (cs : List Bool) (ds ls : List Int) (ps : List (List Int)) (hb : bs.length ≤ 2000) (hB : Byt bs) (hp : p < 2 ^ 34) (hm : m < 14) (hq : q ≤ p + 700) (hk : bookOk W T cs ds ls ps) (Qc : AExit → ES → Heap → Prop)
    (hend : ∀ (q2 : Nat) (W T : Int) (cs : List Bool) (ds ls : List Int) (ps : List (List Int)) (E : ES), q2 ≤ p + 850 → bookOk W T cs ds ls ps → get E 0 = .lp 0 0 0 0 → get E 1 = .v (.int .i64 n) → get E 4 = .lp 0 1 0 0 → get E 7 = .lp 0 2 0 0 → get E 64 = .lp 0 0 0 0 → Qc (.exit 0) E (bookH bs q2 W T cs ds ls ps)) :
    loopNode [] [0, 1, 4, 7, 8, 64] (awp Tryz.prog md8 c_spec_l20Book_L0) Qc (bookE n m) (bookH bs q W T cs ds ls ps) := by
  refine loop_by (fun b E H => ∃ (q2 : Nat) (W T : Int) (cs : List Bool) (ds ls : List Int) (ps : List (List Int)), b ≤ m ∧ q2 + b * 10 ≤ q + m * 10 ∧ bookOk W T cs ds ls ps ∧ E = bookE n b ∧ H = bookH bs q2 W T cs ds ls ps) m ⟨q, W, T, cs, ds, ls, ps, Nat.le_refl _, Nat.le_refl _, hk, rfl, rfl⟩ ?_
  rintro J hJ b E H ⟨q2, W, T, cs, ds, ls, ps, hbm, hq2, hk, rfl, rfl⟩
  by_cases h0 : b = 0
  · subst h0
    simp [c_spec_l20Book_L0]
    exact hend q2 W T cs ds ls ps _ (by omega) hk rfl rfl rfl rfl rfl
  obtain ⟨a1, a2, a3, a4, a5⟩ := bookOk_len hk
  have h0' : 0 < b := by omega
  have ded := s_spec_l20Deed bs q2 W T cs ds ls ps hb hB (by omega) (by omega) (by omega) (by omega)
  have nx : ∀ (q3 : Nat) (W2 T2 : Int) (cs2 : List Bool) (ds2 ls2 : List Int) (ps2 : List (List Int)), q3 ≤ q2 + 10 → bookOk W2 T2 cs2 ds2 ls2 ps2 → again J b (bookE n ((b : Int) - 1)) (bookH bs q3 W2 T2 cs2 ds2 ls2 ps2) := by
    intro q3 W2 T2 cs2 ds2 ls2 ps2 h1 h2
    refine ⟨b - 1, by omega, hJ _ _ _ ⟨q3, W2, T2, cs2, ds2, ls2, ps2, by omega, by omega, h2, ?_, rfl⟩⟩
    rw [show ((b - 1 : Nat) : Int) = (b : Int) - 1 by omega]
  simp [c_spec_l20Book_L0, h0']
  repeat' first
    | omega
    | apply And.intro
    | (refine call_onK ded [0] ?_ ?_ ?_ ?_
       · simp
       · simp
       · simp
       rintro _ _ ⟨k, s, w, q3, k0, k1, s0, s1, w0, w1, hq3, rfl, rfl⟩
       obtain ⟨d, W2, T2, cs2, ds2, l2, p2, hS, hk2⟩ := bdo W T cs ds ls ps k s w hk
       simp)
    | (refine call_on hS ?_
       cases d with
       | false =>
         simp
         exact ⟨by omega, nx q3 W T cs ds ls ps hq3 hk⟩
       | true =>
         simp
         exact ⟨by omega, nx q3 W2 T2 cs2 ds2 l2 p2 hq3 hk2⟩)
end Go.Proofs.Dev

namespace Go.Proofs.Dev
set_option linter.unusedSimpArgs false
set_option maxRecDepth 100000

theorem s_spec_l20Book (bs : List Int) (p : Nat) (n : Int) (hb : bs.length ≤ 2000) (hB : Byt bs) (hp : p < 2 ^ 33) (hn0 : 0 ≤ n) (hn : n < 2 ^ 20) :
    SoundSet Tryz.prog n_spec_l20Book [rdA bs p, .v (.int .i64 n)] (bookSet bs p 1000) := by
  refine fn_okS (md := md8) (ms := [true, false]) k_spec_l20Book (by simp) ?_
  simp [c_spec_l20Book]
  refine call_onK (s_spec_l20Puzzle bs p 0 hb hB (by omega) (by omega) (by omega)) [0] (by simp) (by simp) (by simp) ?_
  rintro _ _ ⟨W, T, cs, ds, q, rfl, hcs, hds, hq, rfl⟩
  simp [regA]
  refine call_on (s_spec_BookNew W T cs ds (by omega) (by omega)) ?_
  obtain ⟨W2, T2, cs2, ds2, ls2, e, hk⟩ := new_ok W T cs ds
  rw [e]
  simp
  refine call_onK (s_spec_l20Rd_pick bs q 14 hb hB (by omega)) [0] (by simp) (by simp) (by simp) ?_
  rintro _ _ ⟨x, x0, x1, rfl, rfl⟩
  obtain ⟨m, rfl⟩ : ∃ m : Nat, x = m := ⟨x.toNat, by omega⟩
  simp
  refine book_L0 bs p (q + 1) n m W2 T2 cs2 ds2 ls2 [] hb hB (by omega) (by omega) (by omega) hk _ ?_
  intro q2 W T cs ds ls ps E hq2 hk e0 e1 e4 e7 e64
  obtain ⟨a1, a2, a3, a4, a5⟩ := bookOk_len hk
  have t1 : (oss ps).take ps.length = oss ps := List.take_of_length_le (by simp [oss])
  have fin : ∀ (W T : Int) (cs : List Bool) (ds ls : List Int) (ps : List (List Int)) (q3 : Nat), cs.length ≤ 37 → ds.length ≤ 38 → ls.length ≤ 38 → ps.length ≤ 21 → (∀ x ∈ ps, x.length ≤ 37) → q3 ≤ q2 + 5 → bookSet bs p 1000 (bkO W T cs ds ls ps) [rdA bs q3, .bot] :=
    fun W T cs ds ls ps q3 h1 h2 h3 h4 h5 h6 => ⟨W, T, cs, ds, ls, ps, q3, h1, h2, h3, h4, h5, by omega, rfl, rfl⟩
  have a5' : ∀ x ∈ ps, x.length ≤ 37 := fun x hx => by have := a5 x hx; omega
  simp [e0, e1]
  refine call_onK (s_spec_l20Rd_odd bs q2 n hb hB (by omega) (by omega)) [0] (by simp) (by simp) (by simp) ?_
  rintro _ _ ⟨o, q3, rfl, hq3, rfl⟩
  cases o with
  | false =>
    simp [get_purgeE, e0, e4, e7, e64]
    refine ⟨_, _, fin W T cs ds ls ps q3 (by omega) (by omega) (by omega) (by omega) a5' (by omega), ?_⟩
    simp [get_purgeE, e0, e1, e4, e7, e64, t1]
  | true =>
    simp [get_purgeE, e0, e4, e7, e64]
    refine call_onK (s_spec_l20Rd_pick bs q3 4 hb hB (by omega)) [0] (by simp) (by simp) (by simp) ?_
    rintro _ _ ⟨y, y0, y1, rfl, rfl⟩
    by_cases c0 : y = 0
    · have ea : ints ls ++ [.v (.int .i64 0)] = ints (ls ++ [0]) := by simp [ints]
      have t2 : (ints (ls ++ [0])).take (ls.length + 1) = ints (ls ++ [0]) := List.take_of_length_le (by simp)
      simp [c0, get_purgeE, e0, e4, e7, e64, ea]
      refine ⟨by omega, _, _, fin W T cs ds (ls ++ [0]) ps (q3 + 1) (by omega) (by omega) (by simp; omega) (by omega) a5' (by omega), ?_⟩
      simp [get_purgeE, e0, e1, e4, e7, e64, t1, t2]
    by_cases c1 : y = 1
    · have ea : oss ps ++ [.os 1 [.v (.int .i64 9)]] = oss (ps ++ [[9]]) := by simp [oss, ints]
      have t2 : (oss (ps ++ [[9]])).take (ps.length + 1) = oss (ps ++ [[9]]) := List.take_of_length_le (by simp [oss])
      simp [c1, get_purgeE, e0, e4, e7, e64, ea]
      refine ⟨by omega, _, _, fin W T cs ds ls (ps ++ [[9]]) (q3 + 1) (by omega) (by omega) (by omega) (by simp; omega) (by intro x hx; simp at hx; rcases hx with h | rfl; exact a5' x h; simp) (by omega), ?_⟩
      simp [get_purgeE, e0, e1, e4, e7, e64, t2]
    by_cases c2 : y = 2
    · simp [c0, c1, c2, get_purgeE, e0, e4, e7, e64]
      refine ⟨_, _, fin 0 0 [] [] [] [] (q3 + 1) (by simp) (by simp) (by simp) (by simp) (by simp) (by omega), ?_⟩
      simp [get_purgeE, e0, e1, e4, e7, e64, oss]
    · have ea : ints ds ++ [.v (.int .i64 0)] = ints (ds ++ [0]) := by simp [ints]
      have t2 : (ints (ds ++ [0])).take (ds.length + 1) = ints (ds ++ [0]) := List.take_of_length_le (by simp)
      simp [c0, c1, c2, get_purgeE, e0, e4, e7, e64, ea]
      refine ⟨by omega, _, _, fin W T cs (ds ++ [0]) ls ps (q3 + 1) (by omega) (by simp; omega) (by omega) (by omega) a5' (by omega), ?_⟩
      simp [get_purgeE, e0, e1, e4, e7, e64, t1, t2]
end Go.Proofs.Dev

namespace Go.Proofs
open Go.Shelf
def Tryz.laysC172_ren : Go.Shelf.Ren := ⟨fun | 172 => 34 | 244 => 53 | 245 => 54 | 247 => 78 | 279 => 79 | 280 => 80 | 281 => 81 | 282 => 82 | 287 => 111 | 316 => 112 | 171 => 25 | 205 => 113 | 321 => 130 | 322 => 131 | 243 => 48 | 246 => 75 | 283 => 104 | 284 => 105 | 285 => 106 | 286 => 107 | 129 => 125 | 317 => 124 | 318 => 126 | 319 => 127 | 320 => 128 | 337 => 132 | 338 => 133 | n => n, fun | 9 => 9 | 3 => 3 | 75 => 60 | 76 => 61 | 4 => 4 | 5 => 5 | 167 => 105 | 37 => 22 | 0 => 0 | 85 => 106 | 2 => 2 | 168 => 108 | 53 => 122 | 175 => 129 | 46 => 112 | 210 => 133 | 127 => 88 | 145 => 151 | 143 => 149 | 21 => 21 | 171 => 121 | 173 => 125 | 212 => 144 | 51 => 135 | 20 => 20 | 213 => 145 | 232 => 157 | 233 => 158 | 80 => 71 | n => n, fun | 15 => 2 | 16 => 3 | 17 => 4 | 18 => 7 | 19 => 8 | n => n⟩
theorem Tryz.laysC172 : Go.Proofs.LaysC.n172 Tryz.prog Tryz.laysC172_ren := {
  mixed := by kernel_rfl
  f129 := Tryz.func125.trans (congrArg some (by kernel_rfl))
  f171 := Tryz.func25.trans (congrArg some (by kernel_rfl))
  f172 := Tryz.func34.trans (congrArg some (by kernel_rfl))
  f205 := Tryz.func113.trans (congrArg some (by kernel_rfl))
  f243 := Tryz.func48.trans (congrArg some (by kernel_rfl))
  f244 := Tryz.func53.trans (congrArg some (by kernel_rfl))
  f245 := Tryz.func54.trans (congrArg some (by kernel_rfl))
  f246 := Tryz.func75.trans (congrArg some (by kernel_rfl))
  f247 := Tryz.func78.trans (congrArg some (by kernel_rfl))
  f279 := Tryz.func79.trans (congrArg some (by kernel_rfl))
  f280 := Tryz.func80.trans (congrArg some (by kernel_rfl))
  f281 := Tryz.func81.trans (congrArg some (by kernel_rfl))
  f282 := Tryz.func82.trans (congrArg some (by kernel_rfl))
  f283 := Tryz.func104.trans (congrArg some (by kernel_rfl))
  f284 := Tryz.func105.trans (congrArg some (by kernel_rfl))
  f285 := Tryz.func106.trans (congrArg some (by kernel_rfl))
  f286 := Tryz.func107.trans (congrArg some (by kernel_rfl))
  f287 := Tryz.func111.trans (congrArg some (by kernel_rfl))
  f316 := Tryz.func112.trans (congrArg some (by kernel_rfl))
  f317 := Tryz.func124.trans (congrArg some (by kernel_rfl))
  f318 := Tryz.func126.trans (congrArg some (by kernel_rfl))
  f319 := Tryz.func127.trans (congrArg some (by kernel_rfl))
  f320 := Tryz.func128.trans (congrArg some (by kernel_rfl))
  f321 := Tryz.func130.trans (congrArg some (by kernel_rfl))
  f322 := Tryz.func131.trans (congrArg some (by kernel_rfl))
  f337 := Tryz.func132.trans (congrArg some (by kernel_rfl))
  f338 := Tryz.func133.trans (congrArg some (by kernel_rfl))
  t0 := Tryz.underlying0
  a0 := Tryz.isAgg0
  z0 := Tryz.sizeOf0
  v0 := Tryz.zeroValue0
  t2 := Tryz.underlying2
  a2 := Tryz.isAgg2
  z2 := Tryz.sizeOf2
  v2 := Tryz.zeroValue2
  t3 := Tryz.underlying3
  a3 := Tryz.isAgg3
  z3 := Tryz.sizeOf3
  v3 := Tryz.zeroValue3
  t4 := Tryz.underlying4
  a4 := Tryz.isAgg4
  z4 := Tryz.sizeOf4
  v4 := Tryz.zeroValue4
  t5 := Tryz.underlying5
  a5 := Tryz.isAgg5
  z5 := Tryz.sizeOf5
  v5 := Tryz.zeroValue5
  t9 := Tryz.underlying9
  a9 := Tryz.isAgg9
  z9 := Tryz.sizeOf9
  v9 := Tryz.zeroValue9
  t20 := Tryz.underlying20
  a20 := Tryz.isAgg20
  z20 := Tryz.sizeOf20
  v20 := Tryz.zeroValue20
  t21 := Tryz.underlying21
  a21 := Tryz.isAgg21
  z21 := Tryz.sizeOf21
  v21 := Tryz.zeroValue21
  t37 := Tryz.underlying22
  a37 := Tryz.isAgg22
  z37 := Tryz.sizeOf22
  v37 := Tryz.zeroValue22
  t46 := Tryz.underlying112
  a46 := Tryz.isAgg112
  z46 := Tryz.sizeOf112
  v46 := Tryz.zeroValue112
  t51 := Tryz.underlying135
  a51 := Tryz.isAgg135
  z51 := Tryz.sizeOf135
  v51 := Tryz.zeroValue135
  t53 := Tryz.underlying122
  a53 := Tryz.isAgg122
  z53 := Tryz.sizeOf122
  v53 := Tryz.zeroValue122
  t75 := Tryz.underlying60
  a75 := Tryz.isAgg60
  z75 := Tryz.sizeOf60
  v75 := Tryz.zeroValue60
  t76 := Tryz.underlying61
  a76 := Tryz.isAgg61
  z76 := Tryz.sizeOf61
  v76 := Tryz.zeroValue61
  t85 := Tryz.underlying106
  a85 := Tryz.isAgg106
  z85 := Tryz.sizeOf106
  v85 := Tryz.zeroValue106
  t127 := Tryz.underlying88
  a127 := Tryz.isAgg88
  z127 := Tryz.sizeOf88
  v127 := Tryz.zeroValue88
  t143 := Tryz.underlying149
  a143 := Tryz.isAgg149
  z143 := Tryz.sizeOf149
  v143 := Tryz.zeroValue149
  t145 := Tryz.underlying151
  a145 := Tryz.isAgg151
  z145 := Tryz.sizeOf151
  v145 := Tryz.zeroValue151
  t167 := Tryz.underlying105
  a167 := Tryz.isAgg105
  z167 := Tryz.sizeOf105
  v167 := Tryz.zeroValue105
  t168 := Tryz.underlying108
  a168 := Tryz.isAgg108
  z168 := Tryz.sizeOf108
  v168 := Tryz.zeroValue108
  t171 := Tryz.underlying121
  a171 := Tryz.isAgg121
  z171 := Tryz.sizeOf121
  v171 := Tryz.zeroValue121
  t173 := Tryz.underlying125
  a173 := Tryz.isAgg125
  z173 := Tryz.sizeOf125
  v173 := Tryz.zeroValue125
  t175 := Tryz.underlying129
  a175 := Tryz.isAgg129
  z175 := Tryz.sizeOf129
  v175 := Tryz.zeroValue129
  t210 := Tryz.underlying133
  a210 := Tryz.isAgg133
  z210 := Tryz.sizeOf133
  v210 := Tryz.zeroValue133
  t212 := Tryz.underlying144
  a212 := Tryz.isAgg144
  z212 := Tryz.sizeOf144
  v212 := Tryz.zeroValue144
  t213 := Tryz.underlying145
  a213 := Tryz.isAgg145
  z213 := Tryz.sizeOf145
  t232 := Tryz.underlying157
  a232 := Tryz.isAgg157
  z232 := Tryz.sizeOf157
  v232 := Tryz.zeroValue157
  t233 := Tryz.underlying158
  a233 := Tryz.isAgg158
  z233 := Tryz.sizeOf158
  v233 := Tryz.zeroValue158
  g15 := by kernel_rfl
  g16 := by kernel_rfl
  g17 := by kernel_rfl
  g18 := by kernel_rfl
  g19 := by kernel_rfl
  t80 := Tryz.underlying71
  a80 := Tryz.isAgg71
  z80 := Tryz.sizeOf71
  v80 := Tryz.zeroValue71
  i0 := by kernel_rfl
  i2 := by kernel_rfl
  i3 := by kernel_rfl
  i4 := by kernel_rfl
  i5 := by kernel_rfl
  i9 := by kernel_rfl
  i20 := by kernel_rfl
  i21 := by kernel_rfl
  i37 := by kernel_rfl
  i46 := by kernel_rfl
  i51 := by kernel_rfl
  i53 := by kernel_rfl
  i75 := by kernel_rfl
  i76 := by kernel_rfl
  i80 := by kernel_rfl
  i85 := by kernel_rfl
  i127 := by kernel_rfl
  i143 := by kernel_rfl
  i145 := by kernel_rfl
  i167 := by kernel_rfl
  i168 := by kernel_rfl
  i171 := by kernel_rfl
  i173 := by kernel_rfl
  i175 := by kernel_rfl
  i210 := by kernel_rfl
  i212 := by kernel_rfl
  i232 := by kernel_rfl
  i233 := by kernel_rfl
  m15 := by kernel_rfl
  m16 := by kernel_rfl
  m17 := by kernel_rfl
  m18 := by kernel_rfl
  m19 := by kernel_rfl
  c0 := by kernel_rfl
  c2 := by kernel_rfl
  c3 := by kernel_rfl
  c4 := by kernel_rfl
  c5 := by kernel_rfl
  c9 := by kernel_rfl
  c20 := by kernel_rfl
  c21 := by kernel_rfl
  c37 := by kernel_rfl
  c46 := by kernel_rfl
  c51 := by kernel_rfl
  c53 := by kernel_rfl
  c75 := by kernel_rfl
  c76 := by kernel_rfl
  c80 := by kernel_rfl
  c85 := by kernel_rfl
  c127 := by kernel_rfl
  c143 := by kernel_rfl
  c145 := by kernel_rfl
  c167 := by kernel_rfl
  c168 := by kernel_rfl
  c171 := by kernel_rfl
  c173 := by kernel_rfl
  c175 := by kernel_rfl
  c210 := by kernel_rfl
  c212 := by kernel_rfl
  c213 := by kernel_rfl
  c232 := by kernel_rfl
  c233 := by kernel_rfl }
open Go.RowKit in
/-- strconv.Atoi, AT EVERY STRING THAT SPELLS AN int ('Lib.atoiAll .. = .ok v'; of whatever length: leading zeros count): v, AND NO ERROR. The world: as it was, or with the one new row that '[]byte(..)' lays. (LAID: no walk: one application.) -/
theorem Tryz.strconv_Atoi_ok (s : ByteArray) (hmax : s.size ≤ 9223372036854775806) (v : Int) (h : Lib.atoiAll s.data.toList = .ok v) (w : World) :
    Calls Tryz.prog 34 #[.string s] w fun e w' => e = .returned (.tuple #[.int .i64 v, .nilIface]) ∧ (w' = w ∨ ∃ t, w' = Lib.bytesWorld w 5 t) := Any.strconv_Atoi_ok Tryz.laysC172 s hmax v h w
open Go.RowKit in
/-- strconv.Atoi, AT EVERY NUMERAL THAT NO int HOLDS ('.range'): THE GREATEST OR THE LEAST int, BY THE SIGN ('Lib.atoiSat'), AND AN ERROR THAT IS NOT nil: a *NumError in a new block N: {Func: "Atoi", Num: s's bytes, Err: what the variable ErrRange holds}. Of what was there nothing has turned. (LAID: no walk: one application.) -/
theorem Tryz.strconv_Atoi_range (s : ByteArray) (hlim : s.size ≤ 281474976710656) (h : Lib.atoiAll s.data.toList = .range) (ev : Value) (w : World) (hv : w.cell? ⟨3, 0, none⟩ = some ev) (hev : ev = .nilIface ∨ ∃ te pe, ev = .iface te pe) :
    Calls Tryz.prog 34 #[.string s] w fun e w' => ∃ N, e = .returned (.tuple #[.int .i64 (Lib.atoiSat s.data.toList), .iface 108 (.pointer (some ⟨N, 0, none⟩))]) ∧ w.heap.size ≤ N ∧ w'.heap[N]? = some (.cells #[.string ⟨#[65, 116, 111, 105]⟩, .string s, ev] 133 (0, 0)) ∧ Below w.heap.size w w' := Any.strconv_Atoi_range Tryz.laysC172 s hlim h ev w hv hev
def Tryz.lays143_ren : Go.Shelf.Ren := ⟨fun | 143 => 35 | 219 => 55 | 217 => 83 | 225 => 84 | 224 => 85 | 267 => 86 | 266 => 114 | 314 => 115 | n => n, fun | 9 => 9 | 3 => 3 | 4 => 4 | 5 => 5 | 46 => 112 | 146 => 136 | 51 => 135 | n => n, fun | 1 => 1 | n => n⟩
theorem Tryz.lays143 : Go.Proofs.Lays.n143 Tryz.prog Tryz.lays143_ren := {
  mixed := by kernel_rfl
  f143 := Tryz.func35.trans (congrArg some (by kernel_rfl))
  f217 := Tryz.func83.trans (congrArg some (by kernel_rfl))
  f219 := Tryz.func55.trans (congrArg some (by kernel_rfl))
  f224 := Tryz.func85.trans (congrArg some (by kernel_rfl))
  f225 := Tryz.func84.trans (congrArg some (by kernel_rfl))
  f266 := Tryz.func114.trans (congrArg some (by kernel_rfl))
  f267 := Tryz.func86.trans (congrArg some (by kernel_rfl))
  f314 := Tryz.func115.trans (congrArg some (by kernel_rfl))
  t3 := Tryz.underlying3
  a3 := Tryz.isAgg3
  z3 := Tryz.sizeOf3
  v3 := Tryz.zeroValue3
  t4 := Tryz.underlying4
  a4 := Tryz.isAgg4
  z4 := Tryz.sizeOf4
  v4 := Tryz.zeroValue4
  t5 := Tryz.underlying5
  a5 := Tryz.isAgg5
  z5 := Tryz.sizeOf5
  v5 := Tryz.zeroValue5
  t9 := Tryz.underlying9
  a9 := Tryz.isAgg9
  z9 := Tryz.sizeOf9
  v9 := Tryz.zeroValue9
  t46 := Tryz.underlying112
  a46 := Tryz.isAgg112
  z46 := Tryz.sizeOf112
  v46 := Tryz.zeroValue112
  t51 := Tryz.underlying135
  a51 := Tryz.isAgg135
  z51 := Tryz.sizeOf135
  v51 := Tryz.zeroValue135
  t146 := Tryz.underlying136
  a146 := Tryz.isAgg136
  z146 := Tryz.sizeOf136
  v146 := Tryz.zeroValue136
  g1 := by kernel_rfl }
open Go.RowKit Go.Lib in
open Go.RowKit Go.Lib in
/-- strings.Index: "Index returns the index of the first instance of substr in s, or -1 if substr is not present in s.": IT RETURNS 'Lib.index s substr'; the world is as it was. (LAID: no walk: one application.) -/
theorem Tryz.strings_Index (s sub : ByteArray) (m : Int) (w : World) (hs : s.size < 4294967281) (hm : w.cell? ⟨1, 0, none⟩ = some (.int .i64 m)) :
    Calls Tryz.prog 35 #[.string s, .string sub] w fun e w' => e = .returned (.int .i64 (Lib.index s.data.toList sub.data.toList)) ∧ w' = w := Any.strings_Index Tryz.lays143 s sub m w hs hm
open Go.RowKit Go.Lib in
def Tryz.lays146_ren : Go.Shelf.Ren := ⟨fun | 146 => 32 | 221 => 52 | 268 => 76 | 138 => 77 | 143 => 35 | 195 => 108 | 197 => 109 | 218 => 110 | 219 => 55 | 260 => 129 | 217 => 83 | 225 => 84 | 224 => 85 | 267 => 86 | 266 => 114 | 314 => 115 | n => n, fun | 9 => 9 | 31 => 52 | 3 => 3 | 4 => 4 | 0 => 0 | 105 => 127 | 21 => 21 | 5 => 5 | 46 => 112 | 119 => 153 | 139 => 156 | 138 => 155 | 146 => 136 | 51 => 135 | n => n, fun | 1 => 1 | 3 => 5 | 4 => 6 | n => n⟩
theorem Tryz.lays146 : Go.Proofs.Lays.n146 Tryz.prog Tryz.lays146_ren := {
  mixed := by kernel_rfl
  f138 := Tryz.func77.trans (congrArg some (by kernel_rfl))
  f143 := Tryz.func35.trans (congrArg some (by kernel_rfl))
  f146 := Tryz.func32.trans (congrArg some (by kernel_rfl))
  f195 := Tryz.func108.trans (congrArg some (by kernel_rfl))
  f197 := Tryz.func109.trans (congrArg some (by kernel_rfl))
  f217 := Tryz.func83.trans (congrArg some (by kernel_rfl))
  f218 := Tryz.func110.trans (congrArg some (by kernel_rfl))
  f219 := Tryz.func55.trans (congrArg some (by kernel_rfl))
  f221 := Tryz.func52.trans (congrArg some (by kernel_rfl))
  f224 := Tryz.func85.trans (congrArg some (by kernel_rfl))
  f225 := Tryz.func84.trans (congrArg some (by kernel_rfl))
  f260 := Tryz.func129.trans (congrArg some (by kernel_rfl))
  f266 := Tryz.func114.trans (congrArg some (by kernel_rfl))
  f267 := Tryz.func86.trans (congrArg some (by kernel_rfl))
  f268 := Tryz.func76.trans (congrArg some (by kernel_rfl))
  f314 := Tryz.func115.trans (congrArg some (by kernel_rfl))
  t0 := Tryz.underlying0
  a0 := Tryz.isAgg0
  z0 := Tryz.sizeOf0
  v0 := Tryz.zeroValue0
  t3 := Tryz.underlying3
  a3 := Tryz.isAgg3
  z3 := Tryz.sizeOf3
  v3 := Tryz.zeroValue3
  t4 := Tryz.underlying4
  a4 := Tryz.isAgg4
  z4 := Tryz.sizeOf4
  v4 := Tryz.zeroValue4
  t5 := Tryz.underlying5
  a5 := Tryz.isAgg5
  z5 := Tryz.sizeOf5
  v5 := Tryz.zeroValue5
  t9 := Tryz.underlying9
  a9 := Tryz.isAgg9
  z9 := Tryz.sizeOf9
  v9 := Tryz.zeroValue9
  t21 := Tryz.underlying21
  a21 := Tryz.isAgg21
  z21 := Tryz.sizeOf21
  v21 := Tryz.zeroValue21
  t31 := Tryz.underlying52
  a31 := Tryz.isAgg52
  z31 := Tryz.sizeOf52
  v31 := Tryz.zeroValue52
  t46 := Tryz.underlying112
  a46 := Tryz.isAgg112
  z46 := Tryz.sizeOf112
  v46 := Tryz.zeroValue112
  t51 := Tryz.underlying135
  a51 := Tryz.isAgg135
  z51 := Tryz.sizeOf135
  v51 := Tryz.zeroValue135
  t105 := Tryz.underlying127
  a105 := Tryz.isAgg127
  z105 := Tryz.sizeOf127
  v105 := Tryz.zeroValue127
  t119 := Tryz.underlying153
  a119 := Tryz.isAgg153
  z119 := Tryz.sizeOf153
  t138 := Tryz.underlying155
  a138 := Tryz.isAgg155
  z138 := Tryz.sizeOf155
  v138 := Tryz.zeroValue155
  t139 := Tryz.underlying156
  a139 := Tryz.isAgg156
  z139 := Tryz.sizeOf156
  v139 := Tryz.zeroValue156
  t146 := Tryz.underlying136
  a146 := Tryz.isAgg136
  z146 := Tryz.sizeOf136
  v146 := Tryz.zeroValue136
  g1 := by kernel_rfl
  g3 := by kernel_rfl
  g4 := by kernel_rfl }
open Go.RowKit Go.Lib in
/-- strings.Split. (LAID: no walk: one application.) -/
theorem Tryz.strings_Split (s sep : ByteArray) (m : Int) (w : World) (hs : s.size < 4294967281) (hm : w.cell? ⟨1, 0, none⟩ = some (.int .i64 m)) (h1 : 1 ≤ sep.size) :
    Calls Tryz.prog 32 #[.string s, .string sep] w fun e w' =>
      e = .returned (.slice (some ⟨w.heap.size, 0, none⟩) (Lib.countB s sep + 1) (Lib.countB s sep + 1)) ∧ w' = w.alloc (.cells ((Lib.splitB sep 0 (Lib.countB s sep) s).map Value.string).toArray 9) := Any.strings_Split Tryz.lays146 (by kernel_rfl) s sep m w hs hm h1
end Go.Proofs

namespace Go.Proofs.Dev
set_option linter.unusedSimpArgs false
set_option maxRecDepth 100000

@[simp] def mdT (_ : Nat) : List Bool := []

theorem numT_lo {n : Int} (h : n < 10) : numT n = [b8 (48 + n)] := by simp [numT, h]
theorem numT_hi {n : Int} (h : ¬ n < 10) : numT n = [b8 (48 + n / 10), b8 (48 + n % 10)] := by simp [numT, h]

theorem num_lo (n : Int) (h0 : 0 ≤ n) (h1 : n < 10) : SoundAt Tryz.prog n_spec_l1Number [.v (.int .i64 n)] (.v (tx (numT n))) [.bot] := by
  refine fn_ok (md := mdT) (ms := [false]) k_spec_l1Number (by simp) ?_
  have hn : ¬ n < 0 := by omega
  simp [c_spec_l1Number, hn, h1, numT_lo h1, b8, astr, u8L]
  omega

theorem s_spec_l1Number (n : Int) (h0 : 0 ≤ n) (h1 : n < 100) : SoundAt Tryz.prog n_spec_l1Number [.v (.int .i64 n)] (.v (tx (numT n))) [.bot] := by
  by_cases h : n < 10
  · exact num_lo n h0 h
  refine fn_ok (md := mdT) (ms := [false]) k_spec_l1Number (by simp) ?_
  have hn : ¬ n < 0 := by omega
  have c := num_lo (n / 10) (by omega) (by omega)
  rw [numT_lo (by omega)] at c
  simp [c_spec_l1Number, hn, h, astr, u8L]
  (repeat' first | omega | apply And.intro) <;>
  · refine call_on c ?_
    simp [h, numT_hi h, b8, astr, u8L]
    try omega

end Go.Proofs.Dev

namespace Go.Proofs.Dev
open Go.RowKit
set_option linter.unusedSimpArgs false
set_option maxRecDepth 100000

theorem kept_of_below {w w' : World} (S : List Nat) (h : Below w.heap.size w w') : Kept w.heap.size S w w' := by
  refine ⟨h.os, h.tape, h.output, h.size, fun k hk _ => h.block k hk, ?_⟩
  intro b p k hr j hj
  obtain ⟨⟨u, hu⟩, hf⟩ := hr j hj
  have hlt : b < w.heap.size := block_lt_of_cell hu
  have hb := h.block b hlt
  rw [World.cell?_of_block (w := w) (a := ⟨b, p + j, none⟩) hb, World.frozen?_of_block (w := w) (a := ⟨b, p + j, none⟩) hb]
  exact ⟨⟨u, hu⟩, hf⟩

theorem RL_vs {C : Ctx} : ∀ {xs : List Value} {S : List Nat} {us : List Value}, RL C (xs.map AV.v) S us → S = [] ∧ us = xs
  | [], S, us, h => by
    have h' : RL C [] S us := h
    rw [RL] at h'
    exact h'
  | x :: xs, S, us, h => by
    have h' : RL C (.v x :: xs.map AV.v) S us := h
    rw [RL] at h'
    obtain ⟨S1, S2, u, us', rfl, rfl, h1, h2⟩ := h'
    rw [R] at h1
    obtain ⟨rfl, rfl⟩ := RL_vs h2
    rw [h1.1, h1.2]
    exact ⟨rfl, rfl⟩

theorem RL_bts {C : Ctx} : ∀ xs : List Value, RL C (xs.map fun _ => AV.bot) [] xs
  | [] => by show RL C [] [] []; rw [RL]; exact ⟨rfl, rfl⟩
  | x :: xs => by
    show RL C (.bot :: xs.map fun _ => AV.bot) [] (x :: xs)
    rw [RL]; exact ⟨[], [], _, _, rfl, rfl, by rw [R], RL_bts xs⟩

theorem of_lib {P : Program} {f : Nat} {xs : List Value} {r : AV} (h : ∀ (w : World) (S : List Nat) (forb : Nat → Prop), GB w S forb → Calls P f xs.toArray w fun e w' => ∃ v S', e = .returned v ∧ R (cout w' S' forb) r S' v ∧ S'.Nodup ∧ (∀ x ∈ S', x < w'.heap.size ∧ w.heap.size ≤ x) ∧ Kept w.heap.size [] w w') :
    SoundAt P f (xs.map AV.v) r (xs.map fun _ => .bot) := by
  intro w forb us S hr hnd hlt hforb
  obtain ⟨rfl, rfl⟩ := RL_vs hr
  refine (h w [] forb hforb.2).mono ?_
  rintro e w' ⟨v, S', rfl, h1, h2, h3, h4⟩
  refine ⟨v, S', rfl, ?_, h2, fun x hx => ⟨(h3 x hx).1, .inl (h3 x hx).2⟩, h4⟩
  rw [RL]
  exact ⟨S', [], v, _, by simp, rfl, h1, RL_bts _⟩

theorem maxLen_cell {w : World} {S : List Nat} {forb : Nat → Prop} (h : GB w S forb) : ∃ m : Int, w.cell? ⟨1, 0, none⟩ = some (.int .i64 m) := by
  obtain ⟨u, h1, m, rfl⟩ := h.cell (g := 1) (p := intP) (by simp [gps])
  exact ⟨m, h1⟩

theorem s_strings_Index (s t : List UInt8) (hs : s.length < 2 ^ 30) : SoundAt Tryz.prog 35 [.v (tx s), .v (tx t)] (.v (.int .i64 (Go.Lib.index s t))) [.bot, .bot] := by
  refine of_lib (xs := [tx s, tx t]) fun w S forb hg => ?_
  obtain ⟨m, hm⟩ := maxLen_cell hg
  refine (Tryz.strings_Index ⟨s.toArray⟩ ⟨t.toArray⟩ m w (by simp; omega) hm).mono ?_
  rintro e w' ⟨rfl, rfl⟩
  exact ⟨_, [], rfl, by rw [R]; exact ⟨rfl, rfl⟩, by simp, by simp, Kept.refl _ _ _⟩

theorem s_strings_Split (s : List UInt8) (c : UInt8) (hs : s.length < 2 ^ 30) : SoundAt Tryz.prog 32 [.v (tx s), .v (tx [c])] (.os 1 (txs (cutL c s))) [.bot, .bot] := by
  refine of_lib (xs := [tx s, tx [c]]) fun w S forb hg => ?_
  obtain ⟨m, hm⟩ := maxLen_cell hg
  refine (Tryz.strings_Split ⟨s.toArray⟩ ⟨[c].toArray⟩ m w (by simp; omega) hm (by simp)).mono ?_
  rintro e w' ⟨rfl, rfl⟩
  have hb := splitB_cut c s
  have hl := Go.Lib.splitB_all ⟨[c].toArray⟩ (by simp) 0 _ ⟨s.toArray⟩ rfl
  have hlen : Go.Lib.countB ⟨s.toArray⟩ ⟨[c].toArray⟩ + 1 = (cutL c s).length := by
    have := congrArg List.length hb
    simp only [List.length_map] at this
    rw [← this, hl]
  rw [hb, hlen]
  have hcell : ∀ j u, ((cutL c s).map tx)[j]? = some u → (w.alloc (.cells ((cutL c s).map tx).toArray 9)).cell? ⟨w.heap.size, 0 + j, none⟩ = some u := by
    intro j u hj
    have e : (w.alloc (.cells ((cutL c s).map tx).toArray 9)).heap[w.heap.size]? = some (.cells ((cutL c s).map tx).toArray 9) := by
      show (w.heap.push _)[w.heap.size]? = _
      simp
    simp only [World.cell?, e, Nat.zero_add]
    simpa using hj
  refine ⟨_, [w.heap.size], rfl, ?_, by simp, ?_, ?_⟩
  · rw [R]
    refine ⟨some ⟨w.heap.size, 0, none⟩, (cutL c s).length, by rw [txs_length], by rw [txs_length]; exact Nat.le_refl _, ?_⟩
    right
    refine ⟨by omega, w.heap.size, 0, (cutL c s).map tx, [], rfl, rfl, ?_, ?_, hcell, sized_txs _, by rw [flatE_txs]; exact RL_txs _ _⟩
    · show w.heap.size < (w.heap.push _).size
      simp
    · intro j hj
      have hj' : j < (cutL c s).length := by omega
      refine ⟨⟨tx (cutL c s)[j], hcell j _ (by simp [hj'])⟩, ?_⟩
      have e : (w.alloc (.cells ((cutL c s).map tx).toArray 9)).heap[w.heap.size]? = some (.cells ((cutL c s).map tx).toArray 9) := by
        show (w.heap.push _)[w.heap.size]? = _
        simp
      show (w.alloc (.cells ((cutL c s).map tx).toArray 9)).frozen? ⟨w.heap.size, 0 + j, none⟩ = false
      simp only [World.frozen?, e]
      simp
  · intro x hx
    simp at hx
    subst hx
    exact ⟨by show w.heap.size < (w.heap.push _).size; simp, Nat.le_refl _⟩
  · exact ⟨rfl, rfl, rfl, by show w.heap.size ≤ (w.heap.push _).size; simp, fun k hk _ => heapOld w _ k hk, fun _ _ _ h => room_alloc h⟩

end Go.Proofs.Dev

namespace Go.Proofs.Dev
open Go.RowKit
set_option linter.unusedSimpArgs false
set_option maxRecDepth 100000

theorem cut_no {c : UInt8} : ∀ {l : List UInt8}, (∀ j : Nat, l[j]? ≠ some c) → cutL c l = [l]
  | [], _ => rfl
  | x :: l, h => by
    have h0 : x ≠ c := by have := h 0; simpa using this
    rw [cutL, if_neg h0, cut_no (l := l) (fun j => by have := h (j + 1); simpa using this)]
theorem cut_at {c : UInt8} : ∀ {l : List UInt8} {i : Nat}, l[i]? = some c → (∀ j : Nat, j < i → l[j]? ≠ some c) → cutL c l = l.take i :: cutL c (l.drop (i + 1))
  | [], i, h, _ => by simp at h
  | x :: l, 0, h, _ => by
    have : x = c := by simpa using h
    rw [cutL, if_pos this]; simp
  | x :: l, i + 1, h, h2 => by
    have h0 : x ≠ c := by have := h2 0 (by omega); simpa using this
    rw [cutL, if_neg h0, cut_at (l := l) (i := i) (by simpa using h) (fun j hj => by have := h2 (j + 1) (by omega); simpa using this)]
    simp

theorem cutL_le (c : UInt8) : ∀ s : List UInt8, (cutL c s).length ≤ s.length + 1
  | [] => by simp [cutL]
  | x :: s => by
    have := cutL_le c s
    rw [cutL]
    split
    · simp; omega
    · obtain ⟨p, ps, h⟩ := cutL_cons c s
      rw [h] at this ⊢
      simp at this ⊢; omega

theorem s_spec_l1Cut (s : List UInt8) (c : UInt8) (hs : s.length < 2 ^ 30) : SoundAt Tryz.prog n_spec_l1Cut [.v (tx s), .v (.int .u8 (c.toNat : Int))] (.os 1 (txs (cutL c s))) [.bot, .bot] := by
  refine fn_ok (md := mdT) (ms := [false, false]) k_spec_l1Cut (by simp) ?_
  simp [c_spec_l1Cut]
  refine loop_by (fun m E H => ∃ (k f : Nat) (done : List (List UInt8)), m = s.length - k ∧ f ≤ k ∧ k ≤ s.length ∧ (∀ j : Nat, f ≤ j → j < k → s[j]? ≠ some c) ∧ done ++ cutL c (s.drop f) = cutL c s ∧ done.length ≤ k ∧ H = [some (.arr 1 (txs done))] ∧
    E = [(0, .v (tx s)), (1, .v (.int .u8 (c.toNat : Int))), (5, .ls 1 0 0 done.length), (6, .v (.int .i64 (f : Int))), (7, .v (.int .i64 (k : Int)))]) s.length ⟨0, 0, [], by simp⟩ ?_
  rintro J hJ m E H ⟨k, f, done, rfl, hf, hk, hno, hc, hd, rfl, rfl⟩
  by_cases h : k < s.length
  · by_cases he : s[k]? = some c
    · have he' : s[k] = c := by rw [List.getElem?_eq_getElem h] at he; simpa using he
      have hcut : cutL c (s.drop f) = (s.drop f).take (k - f) :: cutL c (s.drop (k + 1)) := by
        rw [cut_at (i := k - f) (by rw [List.getElem?_drop, show f + (k - f) = k by omega]; exact he) (fun j hj => by rw [List.getElem?_drop]; exact hno _ (by omega) (by omega))]
        rw [List.drop_drop, show f + (k - f + 1) = k + 1 by omega]
      have nx := hJ (s.length - (k + 1)) [(0, .v (tx s)), (1, .v (.int .u8 (c.toNat : Int))), (5, .ls 1 0 0 (done.length + 1)), (6, .v (.int .i64 ((k : Int) + 1))), (7, .v (.int .i64 ((k : Int) + 1)))] [some (.arr 1 (txs done ++ [.v (tx ((s.drop f).take (k - f)))]))]
        ⟨k + 1, k + 1, done ++ [(s.drop f).take (k - f)], rfl, by omega, by omega, fun j h1 h2 => by omega, by rw [List.append_assoc, ← hc, hcut]; rfl, by simp; omega, by rw [txs_append]; rfl, by simp⟩
      simp [c_spec_l1Cut_L0, h, he']
      exact ⟨⟨by omega, by omega⟩, ⟨by omega, by omega⟩, ⟨by omega, by omega⟩, _, by omega, nx⟩
    · have he' : ¬ s[k] = c := by rw [List.getElem?_eq_getElem h] at he; simpa using he
      have nx := hJ (s.length - (k + 1)) [(0, .v (tx s)), (1, .v (.int .u8 (c.toNat : Int))), (5, .ls 1 0 0 done.length), (6, .v (.int .i64 (f : Int))), (7, .v (.int .i64 ((k : Int) + 1)))] [some (.arr 1 (txs done))]
        ⟨k + 1, f, done, rfl, by omega, by omega, fun j h1 h2 => by
          by_cases hj : j = k
          · subst hj; exact he
          · exact hno j h1 (by omega), hc, by omega, rfl, by simp⟩
      simp [c_spec_l1Cut_L0, h, he']
      exact ⟨⟨by omega, by omega⟩, _, by omega, nx⟩
  · have hk' : k = s.length := by omega
    subst hk'
    have hcut : cutL c (s.drop f) = [s.drop f] := by
      refine cut_no fun j hj => ?_
      rw [List.getElem?_drop] at hj
      have : f + j < s.length := (List.getElem?_eq_some_iff.1 hj).1
      exact hno _ (by omega) this hj
    rw [← hc, hcut, txs_append, txs_one]
    simp [c_spec_l1Cut_L0]
    refine ⟨by omega, ⟨by omega, by omega⟩, ?_⟩
    rw [List.take_of_length_le (by simp), List.take_of_length_le (l := s.drop f) (by simp)]

end Go.Proofs.Dev

namespace Go.Proofs.Dev
open Go.RowKit
set_option linter.unusedSimpArgs false
set_option maxRecDepth 100000

theorem digs_drop {s : List UInt8} {k : Nat} (n : Int) (h : k < s.length) : digsT n (s.drop k) = if 48 ≤ s[k].toNat ∧ s[k].toNat ≤ 57 then digsT (10 * n + ((s[k].toNat : Int) - 48)) (s.drop (k + 1)) else none := by
  rw [List.drop_eq_getElem_cons h, digsT]

set_option maxHeartbeats 1000000 in
theorem s_spec_l1Digits (p : List UInt8) (hp : p.length < 2 ^ 30) : SoundAt Tryz.prog n_spec_l1Digits [.v (tx p)] (.v (.int .i64 (digT p))) [.bot] := by
  refine fn_ok (md := mdT) (ms := [false]) k_spec_l1Digits (by simp) ?_
  simp [c_spec_l1Digits]
  refine call_on (s_spec_l1In (p.length : Int) 1 4) ?_
  by_cases h0 : p.length = 0
  · have e : ¬ (1 ≤ (p.length : Int) ∧ (p.length : Int) ≤ 4) := by omega
    simp [digT, h0]
  by_cases h4 : 4 < p.length
  · have e : ¬ (1 ≤ (p.length : Int) ∧ (p.length : Int) ≤ 4) := by omega
    simp [digT, h4, e]
  have e : (1 ≤ (p.length : Int) ∧ (p.length : Int) ≤ 4) := by omega
  have hl : 0 < p.length := by omega
  have hhead : p.head? = some p[0] := by rw [List.head?_eq_getElem?, List.getElem?_eq_getElem hl]
  have c48 : ((p[0].toNat : Int) = 48) ↔ p[0] = 48 := by
    have := u8_inj p[0] 48
    simpa using this
  have loop : ∀ Qc : AExit → ES → Heap → Prop, (∀ E n, get E 2 = .v (.int .i64 0) ∨ True → get E 3 = .v (.int .i64 n) → digsT 0 p = some n → Qc (.exit 0) E []) → (∀ E, get E 2 = .v (.int .i64 (-1)) → digsT 0 p = none → Qc .ret E []) →
      loopNode [] [0, 3, 4] (awp Tryz.prog mdT c_spec_l1Digits_L0) Qc [(0, .v (tx p)), (3, .v (.int .i64 0)), (4, .v (.int .i64 0))] [] := by
    intro Qc q1 q2
    refine loop_by (fun m E H => ∃ (k : Nat) (n : Int), m = p.length - k ∧ k ≤ p.length ∧ 0 ≤ n ∧ n < 10 ^ k ∧ digsT n (p.drop k) = digsT 0 p ∧ H = [] ∧ E = [(0, .v (tx p)), (3, .v (.int .i64 n)), (4, .v (.int .i64 (k : Int)))]) p.length ⟨0, 0, by simp⟩ ?_
    rintro J hJ m E H ⟨k, n, rfl, hk, hn0, hn, hd, rfl, rfl⟩
    have h10 : (10 : Int) ^ k ≤ 10000 := by
      have : k = 0 ∨ k = 1 ∨ k = 2 ∨ k = 3 ∨ k = 4 := by omega
      rcases this with rfl | rfl | rfl | rfl | rfl <;> decide
    by_cases h : k < p.length
    · rw [digs_drop n h] at hd
      by_cases hc : 48 ≤ p[k].toNat ∧ p[k].toNat ≤ 57
      · rw [if_pos hc] at hd
        have a1 : ¬ ((p[k].toNat : Int) < 48) := by omega
        have a2 : ¬ ((57 : Int) < (p[k].toNat : Int)) := by omega
        have nx := hJ (p.length - (k + 1)) [(0, .v (tx p)), (3, .v (.int .i64 (10 * n + ((p[k].toNat : Int) - 48)))), (4, .v (.int .i64 ((k : Int) + 1)))] []
          ⟨k + 1, 10 * n + ((p[k].toNat : Int) - 48), rfl, by omega, by omega, by rw [Int.pow_succ]; omega, hd, rfl, by simp⟩
        simp [c_spec_l1Digits_L0, h, a1, a2]
        have hb : (p[k].toNat : Int) ≤ 57 := by omega
        have hb0 : (48 : Int) ≤ (p[k].toNat : Int) := by omega
        exact ⟨⟨by omega, by omega⟩, ⟨by omega, by omega⟩, ⟨by omega, by omega⟩, ⟨by omega, by omega⟩, ⟨by omega, by omega⟩, _, by omega, nx⟩
      · rw [if_neg hc] at hd
        by_cases a1 : (p[k].toNat : Int) < 48
        · simp [c_spec_l1Digits_L0, h, a1]
          exact q2 _ rfl hd.symm
        · have a2 : (57 : Int) < (p[k].toNat : Int) := by omega
          simp [c_spec_l1Digits_L0, h, a1, a2]
          exact q2 _ rfl hd.symm
    · have hk' : k = p.length := by omega
      subst hk'
      rw [List.drop_length] at hd
      simp [c_spec_l1Digits_L0]
      exact q1 _ n (.inr trivial) rfl hd.symm
  by_cases h1 : 1 < p.length
  · by_cases hz : p[0] = 48
    · have hg : (1 : Int) < (p.length : Int) := by omega
      simp [digT, h0, h4, e, h1, hg, hl, hhead, hz]
    · have hg : (1 : Int) < (p.length : Int) := by omega
      have ed : digT p = (digsT 0 p).getD (-1) := by
        unfold digT
        rw [if_neg]
        rintro (h | h | ⟨_, h⟩)
        · exact h0 h
        · exact h4 h
        · rw [hhead] at h; exact hz (by simpa using h)
      rw [ed]
      have c48' : ¬ ((p[0].toNat : Int) = 48) := fun h => hz (c48.1 h)
      simp [e, h1, hg, hz, hl, c48']
      refine loop _ ?_ ?_
      · intro E n _ h3 hd
        simp [h3, hd]
      · intro E h2 hd
        simp [h2, hd]
  · have ed : digT p = (digsT 0 p).getD (-1) := by
      unfold digT
      rw [if_neg]
      rintro (h | h | ⟨h, _⟩)
      · exact h0 h
      · exact h4 h
      · exact h1 h
    rw [ed]
    have hg : ¬ (1 : Int) < (p.length : Int) := by omega
    simp [e, h1, hg]
    refine loop _ ?_ ?_
    · intro E n _ h3 hd
      simp [h3, hd]
    · intro E h2 hd
      simp [h2, hd]

end Go.Proofs.Dev
