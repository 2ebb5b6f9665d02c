/- Contracts of the functions of the program over slots and rows, each proved against the program itself; no condition beyond those that each theorem names. -/
import Derived.Test.YtakaenhgbkbegaaGreatAT
import Derived.Test.YtakaenhgbkbegaaGreatAP
import Derived.Test.YtakaenhgbkbegaaGreatProg
import Derived.Test.YtakaenhgbkbegaaGreatAI
import Derived.Test.YtakaenhgbkbegaaGreatAQ

set_option linter.unusedSimpArgs false
set_option linter.unusedVariables false

namespace Go.Proofs.Dev
set_option linter.unusedSimpArgs false
set_option maxRecDepth 100000

@[simp] theorem take_sls_all (c : Nat) (ps : List (List Int)) : (sls c ps).take ps.length = sls c ps := List.take_of_length_le (by simp)

/-- What the marks of lists of lists are. -/
def marksSS : Int → List (List Int) → List (List Int)
  | _, [] => []
  | k, p :: ps => marksI p.length k :: marksSS (k + p.length) ps
@[simp] theorem marksSS_length : ∀ (k : Int) (a : List (List Int)), (marksSS k a).length = a.length
  | k, [] => by simp [marksSS]
  | k, p :: a => by simp [marksSS, marksSS_length]
@[simp] theorem take_marksSS (k : Int) (ps : List (List Int)) : (oss (marksSS k ps)).take ps.length = oss (marksSS k ps) := List.take_of_length_le (by simp)
end Go.Proofs.Dev

namespace Go.Proofs.Dev

-- 1 parameters, results [.t 2], 6 slots, modes [false]
@[simp] abbrev n_impl_clone_bool : Nat := 57

def c_impl_clone_bool : ACode := .seq (.reg [.o 2 .mv [.c (.os 1 [])]]) <| .seq (.reg [.m 3 0, .o 4 (.call 117 []) [.t 3], .o 5 (.call 116 []) [.t 4],
 .m 2 5]) <| .ret

theorem k_impl_clone_bool : cFn Tryz.prog n_impl_clone_bool 6 [.t 2] c_impl_clone_bool := ⟨Tryz.f57, _, Tryz.func57, rfl, by kernel_rfl, by kernel_rfl, by kernel_rfl, by kernel_rfl⟩

-- 1 parameters, results [.t 2], 8 slots, modes [false]
@[simp] abbrev n_slices_Clone_bool_bool : Nat := 117

def c_slices_Clone_bool_bool : ACode := .seq (.reg [.o 2 .mv [.c (.os 1 [])]]) <| .seq (.seq (.reg [.m 3 0, .o 4 (.nilq false) [.t 3]]) <|
 .cond (.t 4) ( .seq (.reg [.o 2 .mv [.c (.os 1 [])]]) <| .ret) ( .skip)) <| .seq (.reg [.o 5 (.bsl 1) [], .m 6 0, .o 7 (.app 1 1 true) [.t 5, .t 6], .m 2 7]) <|
 .ret

theorem k_slices_Clone_bool_bool : cFn Tryz.prog n_slices_Clone_bool_bool 8 [.t 2] c_slices_Clone_bool_bool := ⟨Tryz.f117, _, Tryz.func117, rfl, by kernel_rfl, by kernel_rfl, by kernel_rfl, by kernel_rfl⟩

-- 1 parameters, results [.t 2], 9 slots, modes [true]
@[simp] abbrev n_slices_Clip_bool_bool : Nat := 116

def c_slices_Clip_bool_bool : ACode := .seq (.reg [.o 2 .mv [.c (.os 1 [])]]) <| .seq (.reg [.m 3 0, .m 4 0, .o 5 (.len false) [.t 4], .m 6 0,
 .o 7 (.len false) [.t 6], .o 8 (.slice 1 false false true true) [.t 3, .t 5, .t 7], .m 2 8]) <| .ret

theorem k_slices_Clip_bool_bool : cFn Tryz.prog n_slices_Clip_bool_bool 9 [.t 2] c_slices_Clip_bool_bool := ⟨Tryz.f116, _, Tryz.func116, rfl, by kernel_rfl, by kernel_rfl, by kernel_rfl, by kernel_rfl⟩

end Go.Proofs.Dev

namespace Go.Proofs.Dev

-- printed by program: spec_BookNew
@[simp] abbrev n_spec_BookNew : Nat := 14
def c_spec_BookNew_E : BCode :=
(BCode.early [(AOper.mk (some 10) (AK.fadr 0) [(Opd.t 2)] none),
  (AOper.mk (some 11) (AK.load false 1) [(Opd.t 10)] none),
  (AOper.mk (some 12) (AK.fadr 1) [(Opd.t 2)] none),
  (AOper.mk (some 13) (AK.load false 1) [(Opd.t 12)] none),
  (AOper.mk (some 15) (AK.fadr 2) [(Opd.t 2)] none),
  (AOper.mk (some 16) (AK.load false 1) [(Opd.t 15)] none),
  (AOper.mk (some 20) AK.mv [(Opd.t 1)] none),
  (AOper.mk (some 22) (AK.load true 3) [(Opd.t 2)] none)]
 (Plan.alt
  (AOper.mk (some 14) (AK.bsl 1) [] none)
 (Plan.alt
  (AOper.mk (some 17) (AK.app 1 1 true) [(Opd.t 14), (Opd.t 16)] none) (Plan.take
  (AOper.mk (some 18) (AK.build [(AV.v (Go.Value.int Go.IntKind.i64 0)), (AV.v (Go.Value.int Go.IntKind.i64 0)), (AV.os 1 [])] [(0, 1), (1, 1), (2, 1)]) [(Opd.t 11), (Opd.t 13), (Opd.t 17)] none)
 (Plan.alt
  (AOper.mk (some 19) (AK.bsl 1) [] none)
 (Plan.alt
  (AOper.mk (some 21) (AK.app 1 8 true) [(Opd.t 19), (Opd.t 20)] none)
 (Plan.alt
  (AOper.mk (some 23) (AK.call 60 []) [(Opd.t 22)] none)
 (Plan.alt
  (AOper.mk (some 24) (AK.bsl 1) [] none) (Plan.take
  (AOper.mk (some 25) (AK.build [(AV.v (Go.Value.int Go.IntKind.i64 0)), (AV.v (Go.Value.int Go.IntKind.i64 0)), (AV.os 1 []), (AV.os 1 []), (AV.os 1 []), (AV.os 1 [])] [(0, 3), (3, 1), (4, 1), (5, 1)]) [(Opd.t 18), (Opd.t 21), (Opd.t 23), (Opd.t 24)] none)
 (Plan.alt
  (AOper.mk none (AK.store 6) [(Opd.t 4), (Opd.t 25)] none) Plan.done Plan.stop)) Plan.stop)
 (Plan.alt
  (AOper.mk (some 24) (AK.bsl 1) [] none)
 (Plan.alt
  (AOper.mk (some 23) (AK.call 60 []) [(Opd.t 22)] none) (Plan.take
  (AOper.mk (some 25) (AK.build [(AV.v (Go.Value.int Go.IntKind.i64 0)), (AV.v (Go.Value.int Go.IntKind.i64 0)), (AV.os 1 []), (AV.os 1 []), (AV.os 1 []), (AV.os 1 [])] [(0, 3), (3, 1), (4, 1), (5, 1)]) [(Opd.t 18), (Opd.t 21), (Opd.t 23), (Opd.t 24)] none)
 (Plan.alt
  (AOper.mk none (AK.store 6) [(Opd.t 4), (Opd.t 25)] none) Plan.done Plan.stop)) Plan.stop) Plan.stop))
 (Plan.alt
  (AOper.mk (some 24) (AK.bsl 1) [] none)
 (Plan.alt
  (AOper.mk (some 21) (AK.app 1 8 true) [(Opd.t 19), (Opd.t 20)] none)
 (Plan.alt
  (AOper.mk (some 23) (AK.call 60 []) [(Opd.t 22)] none) (Plan.take
  (AOper.mk (some 25) (AK.build [(AV.v (Go.Value.int Go.IntKind.i64 0)), (AV.v (Go.Value.int Go.IntKind.i64 0)), (AV.os 1 []), (AV.os 1 []), (AV.os 1 []), (AV.os 1 [])] [(0, 3), (3, 1), (4, 1), (5, 1)]) [(Opd.t 18), (Opd.t 21), (Opd.t 23), (Opd.t 24)] none)
 (Plan.alt
  (AOper.mk none (AK.store 6) [(Opd.t 4), (Opd.t 25)] none) Plan.done Plan.stop)) Plan.stop) Plan.stop) Plan.stop))
 (Plan.alt
  (AOper.mk (some 24) (AK.bsl 1) [] none)
 (Plan.alt
  (AOper.mk (some 19) (AK.bsl 1) [] none)
 (Plan.alt
  (AOper.mk (some 21) (AK.app 1 8 true) [(Opd.t 19), (Opd.t 20)] none)
 (Plan.alt
  (AOper.mk (some 23) (AK.call 60 []) [(Opd.t 22)] none) (Plan.take
  (AOper.mk (some 25) (AK.build [(AV.v (Go.Value.int Go.IntKind.i64 0)), (AV.v (Go.Value.int Go.IntKind.i64 0)), (AV.os 1 []), (AV.os 1 []), (AV.os 1 []), (AV.os 1 [])] [(0, 3), (3, 1), (4, 1), (5, 1)]) [(Opd.t 18), (Opd.t 21), (Opd.t 23), (Opd.t 24)] none)
 (Plan.alt
  (AOper.mk none (AK.store 6) [(Opd.t 4), (Opd.t 25)] none) Plan.done Plan.stop)) Plan.stop) Plan.stop) Plan.stop) Plan.stop)))
 (Plan.alt
  (AOper.mk (some 19) (AK.bsl 1) [] none)
 (Plan.alt
  (AOper.mk (some 17) (AK.app 1 1 true) [(Opd.t 14), (Opd.t 16)] none) (Plan.take
  (AOper.mk (some 18) (AK.build [(AV.v (Go.Value.int Go.IntKind.i64 0)), (AV.v (Go.Value.int Go.IntKind.i64 0)), (AV.os 1 [])] [(0, 1), (1, 1), (2, 1)]) [(Opd.t 11), (Opd.t 13), (Opd.t 17)] none)
 (Plan.alt
  (AOper.mk (some 21) (AK.app 1 8 true) [(Opd.t 19), (Opd.t 20)] none)
 (Plan.alt
  (AOper.mk (some 23) (AK.call 60 []) [(Opd.t 22)] none)
 (Plan.alt
  (AOper.mk (some 24) (AK.bsl 1) [] none) (Plan.take
  (AOper.mk (some 25) (AK.build [(AV.v (Go.Value.int Go.IntKind.i64 0)), (AV.v (Go.Value.int Go.IntKind.i64 0)), (AV.os 1 []), (AV.os 1 []), (AV.os 1 []), (AV.os 1 [])] [(0, 3), (3, 1), (4, 1), (5, 1)]) [(Opd.t 18), (Opd.t 21), (Opd.t 23), (Opd.t 24)] none)
 (Plan.alt
  (AOper.mk none (AK.store 6) [(Opd.t 4), (Opd.t 25)] none) Plan.done Plan.stop)) Plan.stop)
 (Plan.alt
  (AOper.mk (some 24) (AK.bsl 1) [] none)
 (Plan.alt
  (AOper.mk (some 23) (AK.call 60 []) [(Opd.t 22)] none) (Plan.take
  (AOper.mk (some 25) (AK.build [(AV.v (Go.Value.int Go.IntKind.i64 0)), (AV.v (Go.Value.int Go.IntKind.i64 0)), (AV.os 1 []), (AV.os 1 []), (AV.os 1 []), (AV.os 1 [])] [(0, 3), (3, 1), (4, 1), (5, 1)]) [(Opd.t 18), (Opd.t 21), (Opd.t 23), (Opd.t 24)] none)
 (Plan.alt
  (AOper.mk none (AK.store 6) [(Opd.t 4), (Opd.t 25)] none) Plan.done Plan.stop)) Plan.stop) Plan.stop))
 (Plan.alt
  (AOper.mk (some 24) (AK.bsl 1) [] none)
 (Plan.alt
  (AOper.mk (some 21) (AK.app 1 8 true) [(Opd.t 19), (Opd.t 20)] none)
 (Plan.alt
  (AOper.mk (some 23) (AK.call 60 []) [(Opd.t 22)] none) (Plan.take
  (AOper.mk (some 25) (AK.build [(AV.v (Go.Value.int Go.IntKind.i64 0)), (AV.v (Go.Value.int Go.IntKind.i64 0)), (AV.os 1 []), (AV.os 1 []), (AV.os 1 []), (AV.os 1 [])] [(0, 3), (3, 1), (4, 1), (5, 1)]) [(Opd.t 18), (Opd.t 21), (Opd.t 23), (Opd.t 24)] none)
 (Plan.alt
  (AOper.mk none (AK.store 6) [(Opd.t 4), (Opd.t 25)] none) Plan.done Plan.stop)) Plan.stop) Plan.stop) Plan.stop)))
 (Plan.alt
  (AOper.mk (some 24) (AK.bsl 1) [] none)
 (Plan.alt
  (AOper.mk (some 17) (AK.app 1 1 true) [(Opd.t 14), (Opd.t 16)] none) (Plan.take
  (AOper.mk (some 18) (AK.build [(AV.v (Go.Value.int Go.IntKind.i64 0)), (AV.v (Go.Value.int Go.IntKind.i64 0)), (AV.os 1 [])] [(0, 1), (1, 1), (2, 1)]) [(Opd.t 11), (Opd.t 13), (Opd.t 17)] none)
 (Plan.alt
  (AOper.mk (some 21) (AK.app 1 8 true) [(Opd.t 19), (Opd.t 20)] none)
 (Plan.alt
  (AOper.mk (some 23) (AK.call 60 []) [(Opd.t 22)] none) (Plan.take
  (AOper.mk (some 25) (AK.build [(AV.v (Go.Value.int Go.IntKind.i64 0)), (AV.v (Go.Value.int Go.IntKind.i64 0)), (AV.os 1 []), (AV.os 1 []), (AV.os 1 []), (AV.os 1 [])] [(0, 3), (3, 1), (4, 1), (5, 1)]) [(Opd.t 18), (Opd.t 21), (Opd.t 23), (Opd.t 24)] none)
 (Plan.alt
  (AOper.mk none (AK.store 6) [(Opd.t 4), (Opd.t 25)] none) Plan.done Plan.stop)) Plan.stop) Plan.stop)) Plan.stop) Plan.stop))
 (Plan.alt
  (AOper.mk (some 24) (AK.bsl 1) [] none)
 (Plan.alt
  (AOper.mk (some 17) (AK.app 1 1 true) [(Opd.t 14), (Opd.t 16)] none) (Plan.take
  (AOper.mk (some 18) (AK.build [(AV.v (Go.Value.int Go.IntKind.i64 0)), (AV.v (Go.Value.int Go.IntKind.i64 0)), (AV.os 1 [])] [(0, 1), (1, 1), (2, 1)]) [(Opd.t 11), (Opd.t 13), (Opd.t 17)] none)
 (Plan.alt
  (AOper.mk (some 19) (AK.bsl 1) [] none)
 (Plan.alt
  (AOper.mk (some 21) (AK.app 1 8 true) [(Opd.t 19), (Opd.t 20)] none)
 (Plan.alt
  (AOper.mk (some 23) (AK.call 60 []) [(Opd.t 22)] none) (Plan.take
  (AOper.mk (some 25) (AK.build [(AV.v (Go.Value.int Go.IntKind.i64 0)), (AV.v (Go.Value.int Go.IntKind.i64 0)), (AV.os 1 []), (AV.os 1 []), (AV.os 1 []), (AV.os 1 [])] [(0, 3), (3, 1), (4, 1), (5, 1)]) [(Opd.t 18), (Opd.t 21), (Opd.t 23), (Opd.t 24)] none)
 (Plan.alt
  (AOper.mk none (AK.store 6) [(Opd.t 4), (Opd.t 25)] none) Plan.done Plan.stop)) Plan.stop) Plan.stop) Plan.stop))
 (Plan.alt
  (AOper.mk (some 19) (AK.bsl 1) [] none)
 (Plan.alt
  (AOper.mk (some 17) (AK.app 1 1 true) [(Opd.t 14), (Opd.t 16)] none) (Plan.take
  (AOper.mk (some 18) (AK.build [(AV.v (Go.Value.int Go.IntKind.i64 0)), (AV.v (Go.Value.int Go.IntKind.i64 0)), (AV.os 1 [])] [(0, 1), (1, 1), (2, 1)]) [(Opd.t 11), (Opd.t 13), (Opd.t 17)] none)
 (Plan.alt
  (AOper.mk (some 21) (AK.app 1 8 true) [(Opd.t 19), (Opd.t 20)] none)
 (Plan.alt
  (AOper.mk (some 23) (AK.call 60 []) [(Opd.t 22)] none) (Plan.take
  (AOper.mk (some 25) (AK.build [(AV.v (Go.Value.int Go.IntKind.i64 0)), (AV.v (Go.Value.int Go.IntKind.i64 0)), (AV.os 1 []), (AV.os 1 []), (AV.os 1 []), (AV.os 1 [])] [(0, 3), (3, 1), (4, 1), (5, 1)]) [(Opd.t 18), (Opd.t 21), (Opd.t 23), (Opd.t 24)] none)
 (Plan.alt
  (AOper.mk none (AK.store 6) [(Opd.t 4), (Opd.t 25)] none) Plan.done Plan.stop)) Plan.stop) Plan.stop)) Plan.stop) Plan.stop)) Plan.stop)))
 (Plan.alt
  (AOper.mk (some 19) (AK.bsl 1) [] none)
 (Plan.alt
  (AOper.mk (some 14) (AK.bsl 1) [] none)
 (Plan.alt
  (AOper.mk (some 17) (AK.app 1 1 true) [(Opd.t 14), (Opd.t 16)] none) (Plan.take
  (AOper.mk (some 18) (AK.build [(AV.v (Go.Value.int Go.IntKind.i64 0)), (AV.v (Go.Value.int Go.IntKind.i64 0)), (AV.os 1 [])] [(0, 1), (1, 1), (2, 1)]) [(Opd.t 11), (Opd.t 13), (Opd.t 17)] none)
 (Plan.alt
  (AOper.mk (some 21) (AK.app 1 8 true) [(Opd.t 19), (Opd.t 20)] none)
 (Plan.alt
  (AOper.mk (some 23) (AK.call 60 []) [(Opd.t 22)] none)
 (Plan.alt
  (AOper.mk (some 24) (AK.bsl 1) [] none) (Plan.take
  (AOper.mk (some 25) (AK.build [(AV.v (Go.Value.int Go.IntKind.i64 0)), (AV.v (Go.Value.int Go.IntKind.i64 0)), (AV.os 1 []), (AV.os 1 []), (AV.os 1 []), (AV.os 1 [])] [(0, 3), (3, 1), (4, 1), (5, 1)]) [(Opd.t 18), (Opd.t 21), (Opd.t 23), (Opd.t 24)] none)
 (Plan.alt
  (AOper.mk none (AK.store 6) [(Opd.t 4), (Opd.t 25)] none) Plan.done Plan.stop)) Plan.stop)
 (Plan.alt
  (AOper.mk (some 24) (AK.bsl 1) [] none)
 (Plan.alt
  (AOper.mk (some 23) (AK.call 60 []) [(Opd.t 22)] none) (Plan.take
  (AOper.mk (some 25) (AK.build [(AV.v (Go.Value.int Go.IntKind.i64 0)), (AV.v (Go.Value.int Go.IntKind.i64 0)), (AV.os 1 []), (AV.os 1 []), (AV.os 1 []), (AV.os 1 [])] [(0, 3), (3, 1), (4, 1), (5, 1)]) [(Opd.t 18), (Opd.t 21), (Opd.t 23), (Opd.t 24)] none)
 (Plan.alt
  (AOper.mk none (AK.store 6) [(Opd.t 4), (Opd.t 25)] none) Plan.done Plan.stop)) Plan.stop) Plan.stop))
 (Plan.alt
  (AOper.mk (some 24) (AK.bsl 1) [] none)
 (Plan.alt
  (AOper.mk (some 21) (AK.app 1 8 true) [(Opd.t 19), (Opd.t 20)] none)
 (Plan.alt
  (AOper.mk (some 23) (AK.call 60 []) [(Opd.t 22)] none) (Plan.take
  (AOper.mk (some 25) (AK.build [(AV.v (Go.Value.int Go.IntKind.i64 0)), (AV.v (Go.Value.int Go.IntKind.i64 0)), (AV.os 1 []), (AV.os 1 []), (AV.os 1 []), (AV.os 1 [])] [(0, 3), (3, 1), (4, 1), (5, 1)]) [(Opd.t 18), (Opd.t 21), (Opd.t 23), (Opd.t 24)] none)
 (Plan.alt
  (AOper.mk none (AK.store 6) [(Opd.t 4), (Opd.t 25)] none) Plan.done Plan.stop)) Plan.stop) Plan.stop) Plan.stop)))
 (Plan.alt
  (AOper.mk (some 24) (AK.bsl 1) [] none)
 (Plan.alt
  (AOper.mk (some 17) (AK.app 1 1 true) [(Opd.t 14), (Opd.t 16)] none) (Plan.take
  (AOper.mk (some 18) (AK.build [(AV.v (Go.Value.int Go.IntKind.i64 0)), (AV.v (Go.Value.int Go.IntKind.i64 0)), (AV.os 1 [])] [(0, 1), (1, 1), (2, 1)]) [(Opd.t 11), (Opd.t 13), (Opd.t 17)] none)
 (Plan.alt
  (AOper.mk (some 21) (AK.app 1 8 true) [(Opd.t 19), (Opd.t 20)] none)
 (Plan.alt
  (AOper.mk (some 23) (AK.call 60 []) [(Opd.t 22)] none) (Plan.take
  (AOper.mk (some 25) (AK.build [(AV.v (Go.Value.int Go.IntKind.i64 0)), (AV.v (Go.Value.int Go.IntKind.i64 0)), (AV.os 1 []), (AV.os 1 []), (AV.os 1 []), (AV.os 1 [])] [(0, 3), (3, 1), (4, 1), (5, 1)]) [(Opd.t 18), (Opd.t 21), (Opd.t 23), (Opd.t 24)] none)
 (Plan.alt
  (AOper.mk none (AK.store 6) [(Opd.t 4), (Opd.t 25)] none) Plan.done Plan.stop)) Plan.stop) Plan.stop)) Plan.stop) Plan.stop))
 (Plan.alt
  (AOper.mk (some 24) (AK.bsl 1) [] none)
 (Plan.alt
  (AOper.mk (some 14) (AK.bsl 1) [] none)
 (Plan.alt
  (AOper.mk (some 17) (AK.app 1 1 true) [(Opd.t 14), (Opd.t 16)] none) (Plan.take
  (AOper.mk (some 18) (AK.build [(AV.v (Go.Value.int Go.IntKind.i64 0)), (AV.v (Go.Value.int Go.IntKind.i64 0)), (AV.os 1 [])] [(0, 1), (1, 1), (2, 1)]) [(Opd.t 11), (Opd.t 13), (Opd.t 17)] none)
 (Plan.alt
  (AOper.mk (some 21) (AK.app 1 8 true) [(Opd.t 19), (Opd.t 20)] none)
 (Plan.alt
  (AOper.mk (some 23) (AK.call 60 []) [(Opd.t 22)] none) (Plan.take
  (AOper.mk (some 25) (AK.build [(AV.v (Go.Value.int Go.IntKind.i64 0)), (AV.v (Go.Value.int Go.IntKind.i64 0)), (AV.os 1 []), (AV.os 1 []), (AV.os 1 []), (AV.os 1 [])] [(0, 3), (3, 1), (4, 1), (5, 1)]) [(Opd.t 18), (Opd.t 21), (Opd.t 23), (Opd.t 24)] none)
 (Plan.alt
  (AOper.mk none (AK.store 6) [(Opd.t 4), (Opd.t 25)] none) Plan.done Plan.stop)) Plan.stop) Plan.stop)) Plan.stop) Plan.stop) Plan.stop))
 (Plan.alt
  (AOper.mk (some 24) (AK.bsl 1) [] none)
 (Plan.alt
  (AOper.mk (some 14) (AK.bsl 1) [] none)
 (Plan.alt
  (AOper.mk (some 17) (AK.app 1 1 true) [(Opd.t 14), (Opd.t 16)] none) (Plan.take
  (AOper.mk (some 18) (AK.build [(AV.v (Go.Value.int Go.IntKind.i64 0)), (AV.v (Go.Value.int Go.IntKind.i64 0)), (AV.os 1 [])] [(0, 1), (1, 1), (2, 1)]) [(Opd.t 11), (Opd.t 13), (Opd.t 17)] none)
 (Plan.alt
  (AOper.mk (some 19) (AK.bsl 1) [] none)
 (Plan.alt
  (AOper.mk (some 21) (AK.app 1 8 true) [(Opd.t 19), (Opd.t 20)] none)
 (Plan.alt
  (AOper.mk (some 23) (AK.call 60 []) [(Opd.t 22)] none) (Plan.take
  (AOper.mk (some 25) (AK.build [(AV.v (Go.Value.int Go.IntKind.i64 0)), (AV.v (Go.Value.int Go.IntKind.i64 0)), (AV.os 1 []), (AV.os 1 []), (AV.os 1 []), (AV.os 1 [])] [(0, 3), (3, 1), (4, 1), (5, 1)]) [(Opd.t 18), (Opd.t 21), (Opd.t 23), (Opd.t 24)] none)
 (Plan.alt
  (AOper.mk none (AK.store 6) [(Opd.t 4), (Opd.t 25)] none) Plan.done Plan.stop)) Plan.stop) Plan.stop) Plan.stop))
 (Plan.alt
  (AOper.mk (some 19) (AK.bsl 1) [] none)
 (Plan.alt
  (AOper.mk (some 17) (AK.app 1 1 true) [(Opd.t 14), (Opd.t 16)] none) (Plan.take
  (AOper.mk (some 18) (AK.build [(AV.v (Go.Value.int Go.IntKind.i64 0)), (AV.v (Go.Value.int Go.IntKind.i64 0)), (AV.os 1 [])] [(0, 1), (1, 1), (2, 1)]) [(Opd.t 11), (Opd.t 13), (Opd.t 17)] none)
 (Plan.alt
  (AOper.mk (some 21) (AK.app 1 8 true) [(Opd.t 19), (Opd.t 20)] none)
 (Plan.alt
  (AOper.mk (some 23) (AK.call 60 []) [(Opd.t 22)] none) (Plan.take
  (AOper.mk (some 25) (AK.build [(AV.v (Go.Value.int Go.IntKind.i64 0)), (AV.v (Go.Value.int Go.IntKind.i64 0)), (AV.os 1 []), (AV.os 1 []), (AV.os 1 []), (AV.os 1 [])] [(0, 3), (3, 1), (4, 1), (5, 1)]) [(Opd.t 18), (Opd.t 21), (Opd.t 23), (Opd.t 24)] none)
 (Plan.alt
  (AOper.mk none (AK.store 6) [(Opd.t 4), (Opd.t 25)] none) Plan.done Plan.stop)) Plan.stop) Plan.stop)) Plan.stop) Plan.stop))
 (Plan.alt
  (AOper.mk (some 19) (AK.bsl 1) [] none)
 (Plan.alt
  (AOper.mk (some 14) (AK.bsl 1) [] none)
 (Plan.alt
  (AOper.mk (some 17) (AK.app 1 1 true) [(Opd.t 14), (Opd.t 16)] none) (Plan.take
  (AOper.mk (some 18) (AK.build [(AV.v (Go.Value.int Go.IntKind.i64 0)), (AV.v (Go.Value.int Go.IntKind.i64 0)), (AV.os 1 [])] [(0, 1), (1, 1), (2, 1)]) [(Opd.t 11), (Opd.t 13), (Opd.t 17)] none)
 (Plan.alt
  (AOper.mk (some 21) (AK.app 1 8 true) [(Opd.t 19), (Opd.t 20)] none)
 (Plan.alt
  (AOper.mk (some 23) (AK.call 60 []) [(Opd.t 22)] none) (Plan.take
  (AOper.mk (some 25) (AK.build [(AV.v (Go.Value.int Go.IntKind.i64 0)), (AV.v (Go.Value.int Go.IntKind.i64 0)), (AV.os 1 []), (AV.os 1 []), (AV.os 1 []), (AV.os 1 [])] [(0, 3), (3, 1), (4, 1), (5, 1)]) [(Opd.t 18), (Opd.t 21), (Opd.t 23), (Opd.t 24)] none)
 (Plan.alt
  (AOper.mk none (AK.store 6) [(Opd.t 4), (Opd.t 25)] none) Plan.done Plan.stop)) Plan.stop) Plan.stop)) Plan.stop) Plan.stop) Plan.stop)) Plan.stop))))

def c_spec_BookNew : BCode :=
(BCode.seq
 (BCode.base (ACode.reg [(AOper.mk (some 2) AK.box [(Opd.t 0)] none),
  (AOper.mk (some 4) (AK.alloc [(AV.v (Go.Value.int Go.IntKind.i64 0)), (AV.v (Go.Value.int Go.IntKind.i64 0)), (AV.os 1 []), (AV.os 1 []), (AV.os 1 []), (AV.os 1 [])]) [] none)]))
 (BCode.seq
 (BCode.base (ACode.seq (ACode.reg [(AOper.mk (some 5) (AK.load true 3) [(Opd.t 2)] none),
  (AOper.mk (some 6) AK.mv [(Opd.t 1)] none),
  (AOper.mk (some 7) (AK.call 15 []) [(Opd.t 5), (Opd.t 6)] none),
  (AOper.mk (some 8) (AK.un Go.UnOp.not) [(Opd.t 7)] none)]) (ACode.cond (Opd.t 8) (ACode.seq (ACode.reg [(AOper.mk (some 9) (AK.build [(AV.v (Go.Value.int Go.IntKind.i64 0)), (AV.v (Go.Value.int Go.IntKind.i64 0)), (AV.os 1 []), (AV.os 1 []), (AV.os 1 []), (AV.os 1 [])] []) [] none),
  (AOper.mk none (AK.store 6) [(Opd.t 4), (Opd.t 9)] none)]) ACode.ret) ACode.skip)))
 (BCode.seq
 (BCode.frz 2 c_spec_BookNew_E)
 (BCode.base ACode.ret))))

theorem k_spec_BookNew : cFnB Tryz.prog n_spec_BookNew 26 [(RV.c 4 true 6)] c_spec_BookNew := ⟨Tryz.f14, _, Tryz.func14, rfl, by kernel_rfl, by kernel_rfl, by kernel_rfl, by kernel_rfl⟩

-- printed by program: impl_BookNew
@[simp] abbrev n_impl_BookNew : Nat := 12
def c_impl_BookNew_E : BCode :=
(BCode.early [(AOper.mk (some 10) (AK.fadr 0) [(Opd.t 2)] none),
  (AOper.mk (some 11) (AK.load false 1) [(Opd.t 10)] none),
  (AOper.mk (some 12) (AK.fadr 1) [(Opd.t 2)] none),
  (AOper.mk (some 13) (AK.load false 1) [(Opd.t 12)] none),
  (AOper.mk (some 14) (AK.fadr 2) [(Opd.t 2)] none),
  (AOper.mk (some 15) (AK.load false 1) [(Opd.t 14)] none),
  (AOper.mk (some 18) AK.mv [(Opd.t 1)] none),
  (AOper.mk (some 20) AK.mv [(Opd.t 1)] none),
  (AOper.mk (some 21) (AK.len false) [(Opd.t 20)] none)]
 (Plan.alt
  (AOper.mk (some 16) (AK.call 57 []) [(Opd.t 15)] none) (Plan.take
  (AOper.mk (some 17) (AK.build [(AV.v (Go.Value.int Go.IntKind.i64 0)), (AV.v (Go.Value.int Go.IntKind.i64 0)), (AV.os 1 [])] [(0, 1), (1, 1), (2, 1)]) [(Opd.t 11), (Opd.t 13), (Opd.t 16)] none)
 (Plan.alt
  (AOper.mk (some 19) (AK.call 58 []) [(Opd.t 18)] none)
 (Plan.alt
  (AOper.mk (some 22) (AK.mksl 1 8 (AV.v (Go.Value.int Go.IntKind.i64 0))) [(Opd.t 21), (Opd.t 21)] none) (Plan.take
  (AOper.mk (some 23) (AK.build [(AV.v (Go.Value.int Go.IntKind.i64 0)), (AV.v (Go.Value.int Go.IntKind.i64 0)), (AV.os 1 []), (AV.os 1 []), (AV.os 1 []), (AV.os 1 [])] [(0, 3), (3, 1), (4, 1), (5, 1)]) [(Opd.t 17), (Opd.t 19), (Opd.t 22), (Opd.c (AV.os 1 []))] none)
 (Plan.alt
  (AOper.mk none (AK.store 6) [(Opd.t 4), (Opd.t 23)] none) Plan.done Plan.stop)) Plan.stop)
 (Plan.alt
  (AOper.mk (some 22) (AK.mksl 1 8 (AV.v (Go.Value.int Go.IntKind.i64 0))) [(Opd.t 21), (Opd.t 21)] none)
 (Plan.alt
  (AOper.mk (some 19) (AK.call 58 []) [(Opd.t 18)] none) (Plan.take
  (AOper.mk (some 23) (AK.build [(AV.v (Go.Value.int Go.IntKind.i64 0)), (AV.v (Go.Value.int Go.IntKind.i64 0)), (AV.os 1 []), (AV.os 1 []), (AV.os 1 []), (AV.os 1 [])] [(0, 3), (3, 1), (4, 1), (5, 1)]) [(Opd.t 17), (Opd.t 19), (Opd.t 22), (Opd.c (AV.os 1 []))] none)
 (Plan.alt
  (AOper.mk none (AK.store 6) [(Opd.t 4), (Opd.t 23)] none) Plan.done Plan.stop)) Plan.stop) Plan.stop)))
 (Plan.alt
  (AOper.mk (some 22) (AK.mksl 1 8 (AV.v (Go.Value.int Go.IntKind.i64 0))) [(Opd.t 21), (Opd.t 21)] none)
 (Plan.alt
  (AOper.mk (some 16) (AK.call 57 []) [(Opd.t 15)] none) (Plan.take
  (AOper.mk (some 17) (AK.build [(AV.v (Go.Value.int Go.IntKind.i64 0)), (AV.v (Go.Value.int Go.IntKind.i64 0)), (AV.os 1 [])] [(0, 1), (1, 1), (2, 1)]) [(Opd.t 11), (Opd.t 13), (Opd.t 16)] none)
 (Plan.alt
  (AOper.mk (some 19) (AK.call 58 []) [(Opd.t 18)] none) (Plan.take
  (AOper.mk (some 23) (AK.build [(AV.v (Go.Value.int Go.IntKind.i64 0)), (AV.v (Go.Value.int Go.IntKind.i64 0)), (AV.os 1 []), (AV.os 1 []), (AV.os 1 []), (AV.os 1 [])] [(0, 3), (3, 1), (4, 1), (5, 1)]) [(Opd.t 17), (Opd.t 19), (Opd.t 22), (Opd.c (AV.os 1 []))] none)
 (Plan.alt
  (AOper.mk none (AK.store 6) [(Opd.t 4), (Opd.t 23)] none) Plan.done Plan.stop)) Plan.stop)) Plan.stop) Plan.stop)))

def c_impl_BookNew : BCode :=
(BCode.seq
 (BCode.base (ACode.reg [(AOper.mk (some 2) AK.box [(Opd.t 0)] none),
  (AOper.mk (some 4) (AK.alloc [(AV.v (Go.Value.int Go.IntKind.i64 0)), (AV.v (Go.Value.int Go.IntKind.i64 0)), (AV.os 1 []), (AV.os 1 []), (AV.os 1 []), (AV.os 1 [])]) [] none)]))
 (BCode.seq
 (BCode.base (ACode.seq (ACode.reg [(AOper.mk (some 5) (AK.load true 3) [(Opd.t 2)] none),
  (AOper.mk (some 6) AK.mv [(Opd.t 1)] none),
  (AOper.mk (some 7) (AK.call 56 []) [(Opd.t 5), (Opd.t 6)] none),
  (AOper.mk (some 8) (AK.un Go.UnOp.not) [(Opd.t 7)] none)]) (ACode.cond (Opd.t 8) (ACode.seq (ACode.reg [(AOper.mk (some 9) (AK.build [(AV.v (Go.Value.int Go.IntKind.i64 0)), (AV.v (Go.Value.int Go.IntKind.i64 0)), (AV.os 1 []), (AV.os 1 []), (AV.os 1 []), (AV.os 1 [])] []) [] none),
  (AOper.mk none (AK.store 6) [(Opd.t 4), (Opd.t 9)] none)]) ACode.ret) ACode.skip)))
 (BCode.seq
 (BCode.frz 2 c_impl_BookNew_E)
 (BCode.base ACode.ret))))

theorem k_impl_BookNew : cFnB Tryz.prog n_impl_BookNew 24 [(RV.c 4 true 6)] c_impl_BookNew := ⟨Tryz.f12, _, Tryz.func12, rfl, by kernel_rfl, by kernel_rfl, by kernel_rfl, by kernel_rfl⟩

end Go.Proofs.Dev

namespace Go.Proofs.Dev
set_option linter.unusedSimpArgs false
set_option maxRecDepth 100000

theorem s_slices_Clone_bool (xs : List Bool) (hx : xs.length < 2 ^ 40) : SoundAt Tryz.prog n_slices_Clone_bool_bool [.sl 1 1 (bools xs)] (.os 1 (bools xs)) [.bot] := by
  refine fn_ok (md := md0) (ms := [false]) k_slices_Clone_bool_bool (by simp) ?_
  simp [c_slices_Clone_bool_bool]
  refine ⟨fun h => by omega, fun h => ?_⟩
  subst h
  simp

theorem s_slices_Clip_bool (xs : List Bool) : SoundAt Tryz.prog n_slices_Clip_bool_bool [.os 1 (bools xs)] (.os 1 (bools xs)) [.bot] := by
  refine fn_ok (md := md0) (ms := [false]) k_slices_Clip_bool_bool (by simp) ?_
  simp [c_slices_Clip_bool_bool]

theorem s_impl_clone_bool (xs : List Bool) (hx : xs.length < 2 ^ 40) : SoundAt Tryz.prog n_impl_clone_bool [.sl 1 1 (bools xs)] (.os 1 (bools xs)) [.bot] := by
  refine fn_ok (md := md0) (ms := [false]) k_impl_clone_bool (by simp) ?_
  simp [c_impl_clone_bool]
  refine call_on (s_slices_Clone_bool xs hx) ?_
  simp
  refine call_on (s_slices_Clip_bool xs) ?_
  simp

/-- The book of a puzzle. -/
def newB (W T : Int) (cs : List Bool) (ds : List Int) : AV := if (regB W T cs && digsB cs ds) = true then bkO W T cs ds (noneL cs) [] else bkO 0 0 [] [] [] []

set_option maxHeartbeats 4000000 in
theorem s_spec_BookNew (W T : Int) (cs : List Bool) (ds : List Int) (hb : cs.length < 2 ^ 40) (hd : ds.length < 2 ^ 40) :
    SoundAt Tryz.prog n_spec_BookNew [.agg [.v (.int .i64 W), .v (.int .i64 T), .sl 1 1 (bools cs)], .sl 1 1 (ints ds)] (newB W T cs ds) [.bot, .bot] := by
  refine fn_okB (md := md0) (ms := [false, false]) k_spec_BookNew (by simp) ?_
  simp [c_spec_BookNew]
  refine call_on (s_spec_PuzzleValid W T cs ds hb hd) ?_
  cases hv : (regB W T cs && digsB cs ds) with
  | false => simp [newB, hv]
  | true =>
  have hr : regB W T cs = true := by simp only [Bool.and_eq_true] at hv; exact hv.1
  simp [newB, hv]
  refine frz_on rfl rfl rfl ?_
  have one := s_spec_LaidBare W T cs hb
  rw [if_pos hr] at one
  simp [c_spec_BookNew_E]
  (repeat' first | assumption | omega | apply And.intro) <;>
  · refine call_on one ?_
    simp

set_option maxHeartbeats 4000000 in
theorem s_impl_BookNew (W T : Int) (cs : List Bool) (ds : List Int) (hb : cs.length < 2 ^ 40) (hd : ds.length < 2 ^ 40) :
    SoundAt Tryz.prog n_impl_BookNew [.agg [.v (.int .i64 W), .v (.int .i64 T), .sl 1 1 (bools cs)], .sl 1 1 (ints ds)] (newB W T cs ds) [.bot, .bot] := by
  refine fn_okB (md := md0) (ms := [false, false]) k_impl_BookNew (by simp) ?_
  simp [c_impl_BookNew]
  refine call_on (s_impl_PuzzleValid W T cs ds hb hd) ?_
  cases hv : (regB W T cs && digsB cs ds) with
  | false => simp [newB, hv]
  | true =>
  have hdg : digsB cs ds = true := by simp only [Bool.and_eq_true] at hv; exact hv.2
  have hdl : ds.length = cs.length := by simp only [digsB, Bool.and_eq_true, decide_eq_true_eq] at hdg; exact hdg.1
  have e0 : noneL cs = List.replicate ds.length 0 := by rw [noneL, hdl]
  have htk : (ints (List.replicate ds.length 0)).take ds.length = ints (List.replicate ds.length 0) := List.take_of_length_le (by simp)
  simp [newB, hv, e0]
  refine frz_on rfl rfl rfl ?_
  simp [c_impl_BookNew_E, ints_rep]
  (repeat' first | assumption | omega | apply And.intro) <;>
  · refine call_on (s_impl_clone_bool cs hb) ?_
    simp
    (repeat' first | assumption | omega | apply And.intro) <;>
    · refine call_on (s_impl_clone_int ds hd) ?_
      simp [htk, ints_rep]
      (repeat' first | assumption | omega | apply And.intro)

end Go.Proofs.Dev

namespace Go.Proofs.Dev
set_option linter.unusedSimpArgs false
set_option maxRecDepth 100000

/-- A book whose lists are marked. -/
def mkC (k : Int) (cs : List Bool) : List Bool := marksB cs.length k
def mkD (k : Int) (cs : List Bool) (ds : List Int) : List Int := marksI ds.length (k + cs.length)
def mkL (k : Int) (cs : List Bool) (ds ls : List Int) : List Int := marksI ls.length (k + cs.length + ds.length)
def mkP (k : Int) (cs : List Bool) (ds ls : List Int) (ps : List (List Int)) : List (List Int) := marksSS (k + cs.length + ds.length + ls.length) ps
@[simp] theorem mkC_length (k : Int) (cs : List Bool) : (mkC k cs).length = cs.length := by simp [mkC]
@[simp] theorem mkD_length (k : Int) (cs : List Bool) (ds : List Int) : (mkD k cs ds).length = ds.length := by simp [mkD]
@[simp] theorem mkL_length (k : Int) (cs : List Bool) (ds ls : List Int) : (mkL k cs ds ls).length = ls.length := by simp [mkL]
@[simp] theorem mkP_length (k : Int) (cs : List Bool) (ds ls : List Int) (ps : List (List Int)) : (mkP k cs ds ls ps).length = ps.length := by simp [mkP]
@[simp] theorem take_mkC (k : Int) (cs : List Bool) : (bools (mkC k cs)).take cs.length = bools (mkC k cs) := List.take_of_length_le (by simp)
@[simp] theorem take_mkD (k : Int) (cs : List Bool) (ds : List Int) : (ints (mkD k cs ds)).take ds.length = ints (mkD k cs ds) := List.take_of_length_le (by simp)
@[simp] theorem take_mkL (k : Int) (cs : List Bool) (ds ls : List Int) : (ints (mkL k cs ds ls)).take ls.length = ints (mkL k cs ds ls) := List.take_of_length_le (by simp)
@[simp] theorem take_mkP (k : Int) (cs : List Bool) (ds ls : List Int) (ps : List (List Int)) : (oss (mkP k cs ds ls ps)).take ps.length = oss (mkP k cs ds ls ps) := List.take_of_length_le (by simp)

@[simp] theorem mkP_nil (k : Int) (cs : List Bool) (ds ls : List Int) : mkP k cs ds ls [] = [] := (rfl)

end Go.Proofs.Dev

namespace Go.Proofs.Dev
set_option linter.unusedSimpArgs false
set_option maxRecDepth 100000

theorem s_spec_LiftOneA (W T : Int) (cs : List Bool) (ls : List Int) (c : Int) (hr : regB W T cs = true) (hy : laysB W T cs ls = true) :
    SoundAt Tryz.prog n_spec_LiftOne [.agg [.v (.int .i64 W), .v (.int .i64 T), .sl 1 1 (bools cs)], .sl 1 1 (ints ls), .v (.int .i64 c)]
      (.tup [.os 1 (ints (liftR W T cs ls c)), .v (.bool (liftRB W T cs ls c))]) [.bot, .bot, .bot] := by
  have hl := lays_len hy
  have h36 := regB_len hr
  by_cases hin : 0 ≤ c ∧ c < ls.length
  · have := s_spec_LiftOne W T cs ls c.toNat hr hy (by omega)
    rw [show ((c.toNat : Nat) : Int) = c by omega] at this
    by_cases hz : ati ls c = 0
    · have e : liftHas ls c = false := by simp [liftHas, hz]
      rw [if_pos hz] at this
      simpa [liftR, liftRB, hr, hy, e] using this
    · have e : liftHas ls c = true := by simp [liftHas, hz, hin]
      rw [if_neg hz] at this
      simpa [liftR, liftRB, hr, hy, e] using this
  · have e : liftHas ls c = false := by simp [liftHas]; omega
    refine fn_ok (md := md5) (ms := [false, false, false]) k_spec_LiftOne (by simp) ?_
    simp [c_spec_LiftOne, liftR, liftRB, hr, hy, e]
    refine call_on (s_spec_LaidOk W T cs ls (by omega) (by omega)) ?_
    simp [hr, hy]
    refine ⟨by omega, by omega, ?_⟩
    refine call_on (s_spec_l1In_f (x := c) (lo := 0) (hi := (ls.length : Int) - 1) (by omega)) ?_
    simp

/-- What a deed lays, and whether it may. -/
def nextL (W T : Int) (cs : List Bool) (ds ls : List Int) (kind spot way : Int) : List Int :=
  if kind = 0 then layOneL W T cs ls spot way else if kind = 1 then (if liftHas ls spot = true then liftI W T ls spot else ls) else if kind = 2 then flipI W T ls spot else if kind = 3 then forceAllI W T cs ds ls else []
def nextB (W T : Int) (cs : List Bool) (ds ls : List Int) (kind spot way : Int) : Bool :=
  if kind = 0 then freeB W T cs ls spot way else if kind = 1 then liftHas ls spot else if kind = 2 then flipB W T ls spot else if kind = 3 then decide (forceAllI W T cs ds ls ≠ ls) else false
def doI (W T : Int) (cs : List Bool) (ds ls : List Int) (ps : List (List Int)) (kind spot way : Int) : Bool × List Int × List (List Int) :=
  doRes (needB (kind, spot, way)) kind ls ps (nextL W T cs ds ls kind spot way) (nextB W T cs ds ls kind spot way && fairB W T cs ds (nextL W T cs ds ls kind spot way))

theorem forceAllI_length (W T : Int) (cs : List Bool) (ds ls : List Int) : (forceAllI W T cs ds ls).length = ls.length := by unfold forceAllI; rw [forceAllN_length]
theorem nextL_length (W T : Int) (cs : List Bool) (ds ls : List Int) (kind spot way : Int) : (nextL W T cs ds ls kind spot way).length ≤ ls.length := by
  unfold nextL
  split
  · rw [layOneL_length]; exact Nat.le_refl _
  split
  · split
    · rw [liftI_length]; exact Nat.le_refl _
    · exact Nat.le_refl _
  split
  · rw [flipI_length]; exact Nat.le_refl _
  split
  · rw [forceAllI_length]; exact Nat.le_refl _
  · simp

/-- What a valid book is. -/
theorem book_parts {W T : Int} {cs : List Bool} {ds ls : List Int} {ps : List (List Int)} (h : bookB W T cs ds ls ps = true) :
    fairB W T cs ds ls = true ∧ ps.length ≤ 20 ∧ ∀ p ∈ ps, fairB W T cs ds p = true := by
  simp only [bookB, pastB, Bool.and_eq_true, decide_eq_true_eq, allB_iff] at h
  refine ⟨h.1.1, h.1.2, fun p hp => ?_⟩
  obtain ⟨i, hi, rfl⟩ := List.mem_iff_getElem.1 hp
  have := h.2 i hi
  rwa [pti_get hi] at this
theorem book_of {W T : Int} {cs : List Bool} {ds ls : List Int} {ps : List (List Int)} (h1 : fairB W T cs ds ls = true) (h2 : ps.length ≤ 20) (h3 : ∀ p ∈ ps, fairB W T cs ds p = true) : bookB W T cs ds ls ps = true := by
  simp only [bookB, pastB, Bool.and_eq_true, decide_eq_true_eq, allB_iff]
  refine ⟨⟨h1, h2⟩, fun i hi => ?_⟩
  rw [pti_get hi]
  exact h3 _ (List.getElem_mem hi)
theorem fair_len {W T : Int} {cs : List Bool} {ds ls : List Int} (h : fairB W T cs ds ls = true) : cs.length ≤ 36 ∧ ds.length = cs.length ∧ ls.length = cs.length := by
  obtain ⟨hr, hd, hy, _⟩ := fair_parts h
  have hd2 := hd
  simp only [digsB, Bool.and_eq_true, decide_eq_true_eq] at hd2
  exact ⟨regB_len hr, hd2.1, lays_len hy⟩

theorem needB_kind {k s w : Int} (h : needB (k, s, w) = true) : k = 0 ∨ k = 1 ∨ k = 2 ∨ k = 3 ∨ k = 4 := by
  unfold needB at h
  simp only at h
  split at h
  · omega
  split at h
  · omega
  split at h
  · omega
  · cases h

theorem doRes_back {ls q : List Int} {qs : List (List Int)} {n : List Int} {b : Bool} : doRes true 4 ls (qs ++ [q]) n b = (true, q, qs) := by simp [doRes]
theorem doRes_none {ls : List Int} {n : List Int} {b : Bool} : doRes true 4 ls [] n b = (false, ls, []) := by simp [doRes]

theorem s_spec_BookDo (W T : Int) (cs : List Bool) (ds ls : List Int) (ps : List (List Int)) (kind spot way : Int)
    (hc : cs.length ≤ 40) (hd : ds.length ≤ 40) (hl : ls.length ≤ 40) (hps : ps.length ≤ 40) (hp : ∀ p ∈ ps, p.length ≤ 40) :
    SoundAt Tryz.prog n_spec_BookDo [bkA W T cs ds ls ps, deedV kind spot way]
      (.tup [if bookB W T cs ds ls ps = true then bkO W T cs ds (doI W T cs ds ls ps kind spot way).2.1 (doI W T cs ds ls ps kind spot way).2.2 else bkO 0 0 [] [] [] [], .v (.bool (bookB W T cs ds ls ps && (doI W T cs ds ls ps kind spot way).1))]) [.bot, .bot] := by
  have hv := s_spec_BookValid W T cs ds ls ps (by omega) (by omega) (by omega) (by omega) (fun p h => by have := hp p h; omega)
  cases ok : bookB W T cs ds ls ps with
  | false =>
    rw [ok] at hv
    refine fn_ok (md := md5) (ms := [false, false]) k_spec_BookDo (by simp) ?_
    simp [c_spec_BookDo]
    refine call_on hv ?_
    simp
  | true =>
  rw [ok] at hv
  obtain ⟨hf, h20, hpf⟩ := book_parts ok
  obtain ⟨hr, hdg, hy, ho⟩ := fair_parts hf
  obtain ⟨l36, ld, ll⟩ := fair_len hf
  have hnl := nextL_length W T cs ds ls kind spot way
  have hnew := s_spec_BookNew W T cs ds (by omega) (by omega)
  have enew : newB W T cs ds = bkO W T cs ds (noneL cs) [] := by simp [newB, hr, hdg]
  rw [enew] at hnew
  have hcopy := s_spec_l10Copy k_spec_l10Copy W T cs ds ls (noneL cs) ps hc hd hl (by omega) hp (by simp [noneL]; omega) hnew
  have hnamed := s_spec_l10Named (kind, spot, way)
  refine SoundSet.at (SoundSet.mono ?_ (s_spec_BookDoS k_spec_BookDo W T cs ds ls ps kind spot way hc hd hl h20 hp true (needB (kind, spot, way)) (nextL W T cs ds ls kind spot way) (nextB W T cs ds ls kind spot way)
    (if regB W T cs && laysB W T cs (nextL W T cs ds ls kind spot way) then (domN (nextL W T cs ds ls kind spot way) : Int) else -1) (if regB W T cs && laysB W T cs ls then (domN ls : Int) else -1) hv (fun _ => hcopy) hnamed
    ?_ ?_ ?_ ?_ (s_spec_LaidMany W T cs _ (by omega) (by omega)) (s_spec_LaidMany W T cs ls (by omega) (by omega)) ?_ (by omega)
    (fun r ups => r = .tup [bkO W T cs ds (doI W T cs ds ls ps kind spot way).2.1 (doI W T cs ds ls ps kind spot way).2.2, .v (.bool (doI W T cs ds ls ps kind spot way).1)] ∧ ups = [.bot, .bot]) ?_ ?_ ?_ ?_ ?_ ?_))
  · rintro r ups ⟨rfl, rfl⟩
    exact ⟨by simp, rfl⟩
  · rintro _ rfl
    have := s_spec_LayOne W T cs ls spot way hr hy
    simpa [nextL, nextB] using this
  · rintro _ rfl
    have := s_spec_LiftOneA W T cs ls spot hr hy
    simpa [nextL, nextB, liftR, liftRB, hr, hy] using this
  · rintro _ rfl
    have := s_spec_FlipOne W T cs ls spot (by omega) (by omega)
    simpa [nextL, nextB, flipL, mayI, hr, hy] using this
  · rintro _ rfl
    have := s_spec_ForceAll W T cs ds ls (by omega) (by omega) (by omega)
    simpa [nextL, nextB, forceAllL, hf] using this
  · rintro _ rfl
    have h1 := forceAll_grow hf
    have h2 := (forceAll_facts hf).1
    obtain ⟨_, _, hy2, _⟩ := fair_parts h2
    simp only [nextB, nextL]
    simp [hr, hy, hy2]
    by_cases hq : forceAllI W T cs ds ls = ls
    · have : ¬ domN ls < domN (forceAllI W T cs ds ls) := fun h => h1.1 h hq
      simp [hq]
    · simp [hq, h1.2 hq]
  · intro h; cases h
  · intro _ hn
    have e : doI W T cs ds ls ps kind spot way = (false, ls, ps) := by simp [doI, doRes, hn]
    rw [e]; exact ⟨rfl, rfl⟩
  · intro _ hn hk he
    have hk4 : kind = 4 := by have := needB_kind hn; omega
    subst hk4 he
    have e : doI W T cs ds ls [] 4 spot way = (false, ls, []) := by unfold doI; rw [hn, doRes_none]
    rw [e]; exact ⟨rfl, rfl⟩
  · intro _ hn hk q qs he
    have hk4 : kind = 4 := by have := needB_kind hn; omega
    subst hk4 he
    have e : doI W T cs ds ls (qs ++ [q]) 4 spot way = (true, q, qs) := by unfold doI; rw [hn, doRes_back]
    rw [e]; exact ⟨rfl, rfl⟩
  · intro _ hn hk hb
    have e : doI W T cs ds ls ps kind spot way = (false, ls, ps) := by unfold doI; rw [hb]; simp [doRes]; omega
    rw [e]; exact ⟨rfl, rfl⟩
  · intro _ hn hk hb
    have e : doI W T cs ds ls ps kind spot way = (true, nextL W T cs ds ls kind spot way, bkPast ls ps) := by unfold doI; rw [hb, hn]; simp [doRes]; omega
    rw [e]; exact ⟨rfl, rfl⟩
end Go.Proofs.Dev
