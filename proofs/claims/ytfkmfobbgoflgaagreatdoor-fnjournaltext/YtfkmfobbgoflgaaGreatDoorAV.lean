/- Contracts of the functions of the program over slots and rows, each proved against the program itself; no condition beyond those that each theorem names. -/
import Derived.Test.YtfkmfobbgoflgaaGreatDoorAP
import Derived.Test.YtfkmfobbgoflgaaGreatDoorProg
import Derived.Test.YtfkmfobbgoflgaaGreatDoorAI
import Derived.Test.YtfkmfobbgoflgaaGreatDoorAU
import Derived.Test.YtfkmfobbgoflgaaGreatDoorAR

set_option linter.unusedSimpArgs false
set_option linter.unusedVariables false

namespace Go.Proofs.Dev

end Go.Proofs.Dev

namespace Go.Proofs.Dev

-- printed by program: spec_BookNew
@[simp] abbrev n_spec_BookNew : Nat := 119
def c_spec_BookNew_E : BCode := (BCode.early [(AOper.mk (some 10) (AK.fadr 0) [(Opd.t 2)] none), (AOper.mk (some 11) (AK.load false 1) [(Opd.t 10)] none),
 (AOper.mk (some 12) (AK.fadr 1) [(Opd.t 2)] none), (AOper.mk (some 13) (AK.load false 1) [(Opd.t 12)] none), (AOper.mk (some 15) (AK.fadr 2) [(Opd.t 2)] none),
 (AOper.mk (some 16) (AK.load false 1) [(Opd.t 15)] none), (AOper.mk (some 20) AK.mv [(Opd.t 1)] none),
 (AOper.mk (some 22) (AK.load true 3) [(Opd.t 2)] none)] (Plan.alt (AOper.mk (some 14) (AK.bsl 1) [] none) (Plan.alt (AOper.mk (some 17) (AK.app 1 1 true) [(Opd.t 14),
 (Opd.t 16)] none) (Plan.take (AOper.mk (some 18) (AK.build [(AV.v (Go.Value.int Go.IntKind.i64 0)), (AV.v (Go.Value.int Go.IntKind.i64 0)), (AV.os 1 [])] [(0,
 1), (1, 1), (2, 1)]) [(Opd.t 11), (Opd.t 13),
 (Opd.t 17)] none) (Plan.alt (AOper.mk (some 19) (AK.bsl 1) [] none) (Plan.alt (AOper.mk (some 21) (AK.app 1 8 true) [(Opd.t 19),
 (Opd.t 20)] none) (Plan.alt (AOper.mk (some 23) (AK.call 146 []) [(Opd.t 22)] none) (Plan.alt (AOper.mk (some 24) (AK.bsl 1) [] none) (Plan.take (AOper.mk (some 25) (AK.build [(AV.v (Go.Value.int Go.IntKind.i64 0)),
 (AV.v (Go.Value.int Go.IntKind.i64 0)), (AV.os 1 []), (AV.os 1 []), (AV.os 1 []), (AV.os 1 [])] [(0, 3), (3, 1), (4, 1), (5, 1)]) [(Opd.t 18), (Opd.t 21),
 (Opd.t 23), (Opd.t 24)] none) (Plan.alt (AOper.mk none (AK.store 6) [(Opd.t 4),
 (Opd.t 25)] none) Plan.done Plan.stop)) Plan.stop) (Plan.alt (AOper.mk (some 24) (AK.bsl 1) [] none) (Plan.alt (AOper.mk (some 23) (AK.call 146 []) [(Opd.t 22)] none) (Plan.take (AOper.mk (some 25) (AK.build [(AV.v (Go.Value.int Go.IntKind.i64 0)),
 (AV.v (Go.Value.int Go.IntKind.i64 0)), (AV.os 1 []), (AV.os 1 []), (AV.os 1 []), (AV.os 1 [])] [(0, 3), (3, 1), (4, 1), (5, 1)]) [(Opd.t 18), (Opd.t 21),
 (Opd.t 23), (Opd.t 24)] none) (Plan.alt (AOper.mk none (AK.store 6) [(Opd.t 4),
 (Opd.t 25)] none) Plan.done Plan.stop)) Plan.stop) Plan.stop)) (Plan.alt (AOper.mk (some 24) (AK.bsl 1) [] none) (Plan.alt (AOper.mk (some 21) (AK.app 1 8 true) [(Opd.t 19),
 (Opd.t 20)] none) (Plan.alt (AOper.mk (some 23) (AK.call 146 []) [(Opd.t 22)] none) (Plan.take (AOper.mk (some 25) (AK.build [(AV.v (Go.Value.int Go.IntKind.i64 0)),
 (AV.v (Go.Value.int Go.IntKind.i64 0)), (AV.os 1 []), (AV.os 1 []), (AV.os 1 []), (AV.os 1 [])] [(0, 3), (3, 1), (4, 1), (5, 1)]) [(Opd.t 18), (Opd.t 21),
 (Opd.t 23), (Opd.t 24)] none) (Plan.alt (AOper.mk none (AK.store 6) [(Opd.t 4),
 (Opd.t 25)] none) Plan.done Plan.stop)) Plan.stop) Plan.stop) Plan.stop)) (Plan.alt (AOper.mk (some 24) (AK.bsl 1) [] none) (Plan.alt (AOper.mk (some 19) (AK.bsl 1) [] none) (Plan.alt (AOper.mk (some 21) (AK.app 1 8 true) [(Opd.t 19),
 (Opd.t 20)] none) (Plan.alt (AOper.mk (some 23) (AK.call 146 []) [(Opd.t 22)] none) (Plan.take (AOper.mk (some 25) (AK.build [(AV.v (Go.Value.int Go.IntKind.i64 0)),
 (AV.v (Go.Value.int Go.IntKind.i64 0)), (AV.os 1 []), (AV.os 1 []), (AV.os 1 []), (AV.os 1 [])] [(0, 3), (3, 1), (4, 1), (5, 1)]) [(Opd.t 18), (Opd.t 21),
 (Opd.t 23), (Opd.t 24)] none) (Plan.alt (AOper.mk none (AK.store 6) [(Opd.t 4),
 (Opd.t 25)] none) Plan.done Plan.stop)) Plan.stop) Plan.stop) Plan.stop) Plan.stop))) (Plan.alt (AOper.mk (some 19) (AK.bsl 1) [] none) (Plan.alt (AOper.mk (some 17) (AK.app 1 1 true) [(Opd.t 14),
 (Opd.t 16)] none) (Plan.take (AOper.mk (some 18) (AK.build [(AV.v (Go.Value.int Go.IntKind.i64 0)), (AV.v (Go.Value.int Go.IntKind.i64 0)), (AV.os 1 [])] [(0,
 1), (1, 1), (2, 1)]) [(Opd.t 11), (Opd.t 13), (Opd.t 17)] none) (Plan.alt (AOper.mk (some 21) (AK.app 1 8 true) [(Opd.t 19),
 (Opd.t 20)] none) (Plan.alt (AOper.mk (some 23) (AK.call 146 []) [(Opd.t 22)] none) (Plan.alt (AOper.mk (some 24) (AK.bsl 1) [] none) (Plan.take (AOper.mk (some 25) (AK.build [(AV.v (Go.Value.int Go.IntKind.i64 0)),
 (AV.v (Go.Value.int Go.IntKind.i64 0)), (AV.os 1 []), (AV.os 1 []), (AV.os 1 []), (AV.os 1 [])] [(0, 3), (3, 1), (4, 1), (5, 1)]) [(Opd.t 18), (Opd.t 21),
 (Opd.t 23), (Opd.t 24)] none) (Plan.alt (AOper.mk none (AK.store 6) [(Opd.t 4),
 (Opd.t 25)] none) Plan.done Plan.stop)) Plan.stop) (Plan.alt (AOper.mk (some 24) (AK.bsl 1) [] none) (Plan.alt (AOper.mk (some 23) (AK.call 146 []) [(Opd.t 22)] none) (Plan.take (AOper.mk (some 25) (AK.build [(AV.v (Go.Value.int Go.IntKind.i64 0)),
 (AV.v (Go.Value.int Go.IntKind.i64 0)), (AV.os 1 []), (AV.os 1 []), (AV.os 1 []), (AV.os 1 [])] [(0, 3), (3, 1), (4, 1), (5, 1)]) [(Opd.t 18), (Opd.t 21),
 (Opd.t 23), (Opd.t 24)] none) (Plan.alt (AOper.mk none (AK.store 6) [(Opd.t 4),
 (Opd.t 25)] none) Plan.done Plan.stop)) Plan.stop) Plan.stop)) (Plan.alt (AOper.mk (some 24) (AK.bsl 1) [] none) (Plan.alt (AOper.mk (some 21) (AK.app 1 8 true) [(Opd.t 19),
 (Opd.t 20)] none) (Plan.alt (AOper.mk (some 23) (AK.call 146 []) [(Opd.t 22)] none) (Plan.take (AOper.mk (some 25) (AK.build [(AV.v (Go.Value.int Go.IntKind.i64 0)),
 (AV.v (Go.Value.int Go.IntKind.i64 0)), (AV.os 1 []), (AV.os 1 []), (AV.os 1 []), (AV.os 1 [])] [(0, 3), (3, 1), (4, 1), (5, 1)]) [(Opd.t 18), (Opd.t 21),
 (Opd.t 23), (Opd.t 24)] none) (Plan.alt (AOper.mk none (AK.store 6) [(Opd.t 4),
 (Opd.t 25)] none) Plan.done Plan.stop)) Plan.stop) Plan.stop) Plan.stop))) (Plan.alt (AOper.mk (some 24) (AK.bsl 1) [] none) (Plan.alt (AOper.mk (some 17) (AK.app 1 1 true) [(Opd.t 14),
 (Opd.t 16)] none) (Plan.take (AOper.mk (some 18) (AK.build [(AV.v (Go.Value.int Go.IntKind.i64 0)), (AV.v (Go.Value.int Go.IntKind.i64 0)), (AV.os 1 [])] [(0,
 1), (1, 1), (2, 1)]) [(Opd.t 11), (Opd.t 13), (Opd.t 17)] none) (Plan.alt (AOper.mk (some 21) (AK.app 1 8 true) [(Opd.t 19),
 (Opd.t 20)] none) (Plan.alt (AOper.mk (some 23) (AK.call 146 []) [(Opd.t 22)] none) (Plan.take (AOper.mk (some 25) (AK.build [(AV.v (Go.Value.int Go.IntKind.i64 0)),
 (AV.v (Go.Value.int Go.IntKind.i64 0)), (AV.os 1 []), (AV.os 1 []), (AV.os 1 []), (AV.os 1 [])] [(0, 3), (3, 1), (4, 1), (5, 1)]) [(Opd.t 18), (Opd.t 21),
 (Opd.t 23), (Opd.t 24)] none) (Plan.alt (AOper.mk none (AK.store 6) [(Opd.t 4),
 (Opd.t 25)] none) Plan.done Plan.stop)) Plan.stop) Plan.stop)) Plan.stop) Plan.stop)) (Plan.alt (AOper.mk (some 24) (AK.bsl 1) [] none) (Plan.alt (AOper.mk (some 17) (AK.app 1 1 true) [(Opd.t 14),
 (Opd.t 16)] none) (Plan.take (AOper.mk (some 18) (AK.build [(AV.v (Go.Value.int Go.IntKind.i64 0)), (AV.v (Go.Value.int Go.IntKind.i64 0)), (AV.os 1 [])] [(0,
 1), (1, 1), (2, 1)]) [(Opd.t 11), (Opd.t 13),
 (Opd.t 17)] none) (Plan.alt (AOper.mk (some 19) (AK.bsl 1) [] none) (Plan.alt (AOper.mk (some 21) (AK.app 1 8 true) [(Opd.t 19),
 (Opd.t 20)] none) (Plan.alt (AOper.mk (some 23) (AK.call 146 []) [(Opd.t 22)] none) (Plan.take (AOper.mk (some 25) (AK.build [(AV.v (Go.Value.int Go.IntKind.i64 0)),
 (AV.v (Go.Value.int Go.IntKind.i64 0)), (AV.os 1 []), (AV.os 1 []), (AV.os 1 []), (AV.os 1 [])] [(0, 3), (3, 1), (4, 1), (5, 1)]) [(Opd.t 18), (Opd.t 21),
 (Opd.t 23), (Opd.t 24)] none) (Plan.alt (AOper.mk none (AK.store 6) [(Opd.t 4),
 (Opd.t 25)] none) Plan.done Plan.stop)) Plan.stop) Plan.stop) Plan.stop)) (Plan.alt (AOper.mk (some 19) (AK.bsl 1) [] none) (Plan.alt (AOper.mk (some 17) (AK.app 1 1 true) [(Opd.t 14),
 (Opd.t 16)] none) (Plan.take (AOper.mk (some 18) (AK.build [(AV.v (Go.Value.int Go.IntKind.i64 0)), (AV.v (Go.Value.int Go.IntKind.i64 0)), (AV.os 1 [])] [(0,
 1), (1, 1), (2, 1)]) [(Opd.t 11), (Opd.t 13), (Opd.t 17)] none) (Plan.alt (AOper.mk (some 21) (AK.app 1 8 true) [(Opd.t 19),
 (Opd.t 20)] none) (Plan.alt (AOper.mk (some 23) (AK.call 146 []) [(Opd.t 22)] none) (Plan.take (AOper.mk (some 25) (AK.build [(AV.v (Go.Value.int Go.IntKind.i64 0)),
 (AV.v (Go.Value.int Go.IntKind.i64 0)), (AV.os 1 []), (AV.os 1 []), (AV.os 1 []), (AV.os 1 [])] [(0, 3), (3, 1), (4, 1), (5, 1)]) [(Opd.t 18), (Opd.t 21),
 (Opd.t 23), (Opd.t 24)] none) (Plan.alt (AOper.mk none (AK.store 6) [(Opd.t 4),
 (Opd.t 25)] none) Plan.done Plan.stop)) Plan.stop) Plan.stop)) Plan.stop) Plan.stop)) Plan.stop))) (Plan.alt (AOper.mk (some 19) (AK.bsl 1) [] none) (Plan.alt (AOper.mk (some 14) (AK.bsl 1) [] none) (Plan.alt (AOper.mk (some 17) (AK.app 1 1 true) [(Opd.t 14),
 (Opd.t 16)] none) (Plan.take (AOper.mk (some 18) (AK.build [(AV.v (Go.Value.int Go.IntKind.i64 0)), (AV.v (Go.Value.int Go.IntKind.i64 0)), (AV.os 1 [])] [(0,
 1), (1, 1), (2, 1)]) [(Opd.t 11), (Opd.t 13), (Opd.t 17)] none) (Plan.alt (AOper.mk (some 21) (AK.app 1 8 true) [(Opd.t 19),
 (Opd.t 20)] none) (Plan.alt (AOper.mk (some 23) (AK.call 146 []) [(Opd.t 22)] none) (Plan.alt (AOper.mk (some 24) (AK.bsl 1) [] none) (Plan.take (AOper.mk (some 25) (AK.build [(AV.v (Go.Value.int Go.IntKind.i64 0)),
 (AV.v (Go.Value.int Go.IntKind.i64 0)), (AV.os 1 []), (AV.os 1 []), (AV.os 1 []), (AV.os 1 [])] [(0, 3), (3, 1), (4, 1), (5, 1)]) [(Opd.t 18), (Opd.t 21),
 (Opd.t 23), (Opd.t 24)] none) (Plan.alt (AOper.mk none (AK.store 6) [(Opd.t 4),
 (Opd.t 25)] none) Plan.done Plan.stop)) Plan.stop) (Plan.alt (AOper.mk (some 24) (AK.bsl 1) [] none) (Plan.alt (AOper.mk (some 23) (AK.call 146 []) [(Opd.t 22)] none) (Plan.take (AOper.mk (some 25) (AK.build [(AV.v (Go.Value.int Go.IntKind.i64 0)),
 (AV.v (Go.Value.int Go.IntKind.i64 0)), (AV.os 1 []), (AV.os 1 []), (AV.os 1 []), (AV.os 1 [])] [(0, 3), (3, 1), (4, 1), (5, 1)]) [(Opd.t 18), (Opd.t 21),
 (Opd.t 23), (Opd.t 24)] none) (Plan.alt (AOper.mk none (AK.store 6) [(Opd.t 4),
 (Opd.t 25)] none) Plan.done Plan.stop)) Plan.stop) Plan.stop)) (Plan.alt (AOper.mk (some 24) (AK.bsl 1) [] none) (Plan.alt (AOper.mk (some 21) (AK.app 1 8 true) [(Opd.t 19),
 (Opd.t 20)] none) (Plan.alt (AOper.mk (some 23) (AK.call 146 []) [(Opd.t 22)] none) (Plan.take (AOper.mk (some 25) (AK.build [(AV.v (Go.Value.int Go.IntKind.i64 0)),
 (AV.v (Go.Value.int Go.IntKind.i64 0)), (AV.os 1 []), (AV.os 1 []), (AV.os 1 []), (AV.os 1 [])] [(0, 3), (3, 1), (4, 1), (5, 1)]) [(Opd.t 18), (Opd.t 21),
 (Opd.t 23), (Opd.t 24)] none) (Plan.alt (AOper.mk none (AK.store 6) [(Opd.t 4),
 (Opd.t 25)] none) Plan.done Plan.stop)) Plan.stop) Plan.stop) Plan.stop))) (Plan.alt (AOper.mk (some 24) (AK.bsl 1) [] none) (Plan.alt (AOper.mk (some 17) (AK.app 1 1 true) [(Opd.t 14),
 (Opd.t 16)] none) (Plan.take (AOper.mk (some 18) (AK.build [(AV.v (Go.Value.int Go.IntKind.i64 0)), (AV.v (Go.Value.int Go.IntKind.i64 0)), (AV.os 1 [])] [(0,
 1), (1, 1), (2, 1)]) [(Opd.t 11), (Opd.t 13), (Opd.t 17)] none) (Plan.alt (AOper.mk (some 21) (AK.app 1 8 true) [(Opd.t 19),
 (Opd.t 20)] none) (Plan.alt (AOper.mk (some 23) (AK.call 146 []) [(Opd.t 22)] none) (Plan.take (AOper.mk (some 25) (AK.build [(AV.v (Go.Value.int Go.IntKind.i64 0)),
 (AV.v (Go.Value.int Go.IntKind.i64 0)), (AV.os 1 []), (AV.os 1 []), (AV.os 1 []), (AV.os 1 [])] [(0, 3), (3, 1), (4, 1), (5, 1)]) [(Opd.t 18), (Opd.t 21),
 (Opd.t 23), (Opd.t 24)] none) (Plan.alt (AOper.mk none (AK.store 6) [(Opd.t 4),
 (Opd.t 25)] none) Plan.done Plan.stop)) Plan.stop) Plan.stop)) Plan.stop) Plan.stop)) (Plan.alt (AOper.mk (some 24) (AK.bsl 1) [] none) (Plan.alt (AOper.mk (some 14) (AK.bsl 1) [] none) (Plan.alt (AOper.mk (some 17) (AK.app 1 1 true) [(Opd.t 14),
 (Opd.t 16)] none) (Plan.take (AOper.mk (some 18) (AK.build [(AV.v (Go.Value.int Go.IntKind.i64 0)), (AV.v (Go.Value.int Go.IntKind.i64 0)), (AV.os 1 [])] [(0,
 1), (1, 1), (2, 1)]) [(Opd.t 11), (Opd.t 13), (Opd.t 17)] none) (Plan.alt (AOper.mk (some 21) (AK.app 1 8 true) [(Opd.t 19),
 (Opd.t 20)] none) (Plan.alt (AOper.mk (some 23) (AK.call 146 []) [(Opd.t 22)] none) (Plan.take (AOper.mk (some 25) (AK.build [(AV.v (Go.Value.int Go.IntKind.i64 0)),
 (AV.v (Go.Value.int Go.IntKind.i64 0)), (AV.os 1 []), (AV.os 1 []), (AV.os 1 []), (AV.os 1 [])] [(0, 3), (3, 1), (4, 1), (5, 1)]) [(Opd.t 18), (Opd.t 21),
 (Opd.t 23), (Opd.t 24)] none) (Plan.alt (AOper.mk none (AK.store 6) [(Opd.t 4),
 (Opd.t 25)] none) Plan.done Plan.stop)) Plan.stop) Plan.stop)) Plan.stop) Plan.stop) Plan.stop)) (Plan.alt (AOper.mk (some 24) (AK.bsl 1) [] none) (Plan.alt (AOper.mk (some 14) (AK.bsl 1) [] none) (Plan.alt (AOper.mk (some 17) (AK.app 1 1 true) [(Opd.t 14),
 (Opd.t 16)] none) (Plan.take (AOper.mk (some 18) (AK.build [(AV.v (Go.Value.int Go.IntKind.i64 0)), (AV.v (Go.Value.int Go.IntKind.i64 0)), (AV.os 1 [])] [(0,
 1), (1, 1), (2, 1)]) [(Opd.t 11), (Opd.t 13),
 (Opd.t 17)] none) (Plan.alt (AOper.mk (some 19) (AK.bsl 1) [] none) (Plan.alt (AOper.mk (some 21) (AK.app 1 8 true) [(Opd.t 19),
 (Opd.t 20)] none) (Plan.alt (AOper.mk (some 23) (AK.call 146 []) [(Opd.t 22)] none) (Plan.take (AOper.mk (some 25) (AK.build [(AV.v (Go.Value.int Go.IntKind.i64 0)),
 (AV.v (Go.Value.int Go.IntKind.i64 0)), (AV.os 1 []), (AV.os 1 []), (AV.os 1 []), (AV.os 1 [])] [(0, 3), (3, 1), (4, 1), (5, 1)]) [(Opd.t 18), (Opd.t 21),
 (Opd.t 23), (Opd.t 24)] none) (Plan.alt (AOper.mk none (AK.store 6) [(Opd.t 4),
 (Opd.t 25)] none) Plan.done Plan.stop)) Plan.stop) Plan.stop) Plan.stop)) (Plan.alt (AOper.mk (some 19) (AK.bsl 1) [] none) (Plan.alt (AOper.mk (some 17) (AK.app 1 1 true) [(Opd.t 14),
 (Opd.t 16)] none) (Plan.take (AOper.mk (some 18) (AK.build [(AV.v (Go.Value.int Go.IntKind.i64 0)), (AV.v (Go.Value.int Go.IntKind.i64 0)), (AV.os 1 [])] [(0,
 1), (1, 1), (2, 1)]) [(Opd.t 11), (Opd.t 13), (Opd.t 17)] none) (Plan.alt (AOper.mk (some 21) (AK.app 1 8 true) [(Opd.t 19),
 (Opd.t 20)] none) (Plan.alt (AOper.mk (some 23) (AK.call 146 []) [(Opd.t 22)] none) (Plan.take (AOper.mk (some 25) (AK.build [(AV.v (Go.Value.int Go.IntKind.i64 0)),
 (AV.v (Go.Value.int Go.IntKind.i64 0)), (AV.os 1 []), (AV.os 1 []), (AV.os 1 []), (AV.os 1 [])] [(0, 3), (3, 1), (4, 1), (5, 1)]) [(Opd.t 18), (Opd.t 21),
 (Opd.t 23), (Opd.t 24)] none) (Plan.alt (AOper.mk none (AK.store 6) [(Opd.t 4),
 (Opd.t 25)] none) Plan.done Plan.stop)) Plan.stop) Plan.stop)) Plan.stop) Plan.stop)) (Plan.alt (AOper.mk (some 19) (AK.bsl 1) [] none) (Plan.alt (AOper.mk (some 14) (AK.bsl 1) [] none) (Plan.alt (AOper.mk (some 17) (AK.app 1 1 true) [(Opd.t 14),
 (Opd.t 16)] none) (Plan.take (AOper.mk (some 18) (AK.build [(AV.v (Go.Value.int Go.IntKind.i64 0)), (AV.v (Go.Value.int Go.IntKind.i64 0)), (AV.os 1 [])] [(0,
 1), (1, 1), (2, 1)]) [(Opd.t 11), (Opd.t 13), (Opd.t 17)] none) (Plan.alt (AOper.mk (some 21) (AK.app 1 8 true) [(Opd.t 19),
 (Opd.t 20)] none) (Plan.alt (AOper.mk (some 23) (AK.call 146 []) [(Opd.t 22)] none) (Plan.take (AOper.mk (some 25) (AK.build [(AV.v (Go.Value.int Go.IntKind.i64 0)),
 (AV.v (Go.Value.int Go.IntKind.i64 0)), (AV.os 1 []), (AV.os 1 []), (AV.os 1 []), (AV.os 1 [])] [(0, 3), (3, 1), (4, 1), (5, 1)]) [(Opd.t 18), (Opd.t 21),
 (Opd.t 23), (Opd.t 24)] none) (Plan.alt (AOper.mk none (AK.store 6) [(Opd.t 4),
 (Opd.t 25)] none) Plan.done Plan.stop)) Plan.stop) Plan.stop)) Plan.stop) Plan.stop) Plan.stop)) Plan.stop))))

def c_spec_BookNew : BCode := (BCode.seq (BCode.base (ACode.reg [(AOper.mk (some 2) AK.box [(Opd.t 0)] none),
 (AOper.mk (some 4) (AK.alloc [(AV.v (Go.Value.int Go.IntKind.i64 0)), (AV.v (Go.Value.int Go.IntKind.i64 0)), (AV.os 1 []), (AV.os 1 []), (AV.os 1 []),
 (AV.os 1 [])]) [] none)])) (BCode.seq (BCode.base (ACode.seq (ACode.reg [(AOper.mk (some 5) (AK.load true 3) [(Opd.t 2)] none),
 (AOper.mk (some 6) AK.mv [(Opd.t 1)] none), (AOper.mk (some 7) (AK.call 121 []) [(Opd.t 5), (Opd.t 6)] none),
 (AOper.mk (some 8) (AK.un Go.UnOp.not) [(Opd.t 7)] none)]) (ACode.cond (Opd.t 8) (ACode.seq (ACode.reg [(AOper.mk (some 9) (AK.build [(AV.v (Go.Value.int Go.IntKind.i64 0)),
 (AV.v (Go.Value.int Go.IntKind.i64 0)), (AV.os 1 []), (AV.os 1 []), (AV.os 1 []), (AV.os 1 [])] []) [] none), (AOper.mk none (AK.store 6) [(Opd.t 4),
 (Opd.t 9)] none)]) ACode.ret) ACode.skip))) (BCode.seq (BCode.frz 2 c_spec_BookNew_E) (BCode.base ACode.ret))))

theorem k_spec_BookNew : cFnB Tryz.prog n_spec_BookNew 26 [(RV.c 4 true 6)] c_spec_BookNew := ⟨Tryz.f119, _, Tryz.func119, rfl, by kernel_rfl, by kernel_rfl, by kernel_rfl, by kernel_rfl⟩

-- printed by program: impl_BookNew
end Go.Proofs.Dev

namespace Go.Proofs.Dev
set_option linter.unusedSimpArgs false
set_option maxRecDepth 100000

/-- The book of a puzzle. -/
def newB (W T : Int) (cs : List Bool) (ds : List Int) : AV := if (regB W T cs && digsB cs ds) = true then bkO W T cs ds (noneL cs) [] else bkO 0 0 [] [] [] []

set_option maxHeartbeats 4000000 in
theorem s_spec_BookNew (W T : Int) (cs : List Bool) (ds : List Int) (hb : cs.length < 2 ^ 40) (hd : ds.length < 2 ^ 40) :
    SoundAt Tryz.prog n_spec_BookNew [.agg [.v (.int .i64 W), .v (.int .i64 T), .sl 1 1 (bools cs)], .sl 1 1 (ints ds)] (newB W T cs ds) [.bot, .bot] := by
  refine fn_okB (md := md0) (ms := [false, false]) k_spec_BookNew (by simp) ?_
  simp [c_spec_BookNew]
  refine call_on (s_spec_PuzzleValid W T cs ds hb hd) ?_
  cases hv : (regB W T cs && digsB cs ds) with
  | false => simp [newB, hv]
  | true =>
  have hr : regB W T cs = true := by simp only [Bool.and_eq_true] at hv; exact hv.1
  simp [newB, hv]
  refine frz_on rfl rfl rfl ?_
  have one := s_spec_LaidBare W T cs hb
  rw [if_pos hr] at one
  simp [c_spec_BookNew_E]
  (repeat' first | assumption | omega | apply And.intro) <;>
  · refine call_on one ?_
    simp

end Go.Proofs.Dev

namespace Go.Proofs.Dev
set_option linter.unusedSimpArgs false
set_option maxRecDepth 100000

/-- A book whose lists are marked. -/
def mkC (k : Int) (cs : List Bool) : List Bool := marksB cs.length k
def mkD (k : Int) (cs : List Bool) (ds : List Int) : List Int := marksI ds.length (k + cs.length)
def mkL (k : Int) (cs : List Bool) (ds ls : List Int) : List Int := marksI ls.length (k + cs.length + ds.length)
def mkP (k : Int) (cs : List Bool) (ds ls : List Int) (ps : List (List Int)) : List (List Int) := marksSS (k + cs.length + ds.length + ls.length) ps
@[simp] theorem mkC_length (k : Int) (cs : List Bool) : (mkC k cs).length = cs.length := by simp [mkC]
@[simp] theorem mkD_length (k : Int) (cs : List Bool) (ds : List Int) : (mkD k cs ds).length = ds.length := by simp [mkD]
@[simp] theorem mkL_length (k : Int) (cs : List Bool) (ds ls : List Int) : (mkL k cs ds ls).length = ls.length := by simp [mkL]
@[simp] theorem mkP_length (k : Int) (cs : List Bool) (ds ls : List Int) (ps : List (List Int)) : (mkP k cs ds ls ps).length = ps.length := by simp [mkP]
@[simp] theorem take_mkC (k : Int) (cs : List Bool) : (bools (mkC k cs)).take cs.length = bools (mkC k cs) := List.take_of_length_le (by simp)
@[simp] theorem take_mkD (k : Int) (cs : List Bool) (ds : List Int) : (ints (mkD k cs ds)).take ds.length = ints (mkD k cs ds) := List.take_of_length_le (by simp)
@[simp] theorem take_mkL (k : Int) (cs : List Bool) (ds ls : List Int) : (ints (mkL k cs ds ls)).take ls.length = ints (mkL k cs ds ls) := List.take_of_length_le (by simp)
@[simp] theorem take_mkP (k : Int) (cs : List Bool) (ds ls : List Int) (ps : List (List Int)) : (oss (mkP k cs ds ls ps)).take ps.length = oss (mkP k cs ds ls ps) := List.take_of_length_le (by simp)

@[simp] theorem mkP_nil (k : Int) (cs : List Bool) (ds ls : List Int) : mkP k cs ds ls [] = [] := (rfl)

end Go.Proofs.Dev

namespace Go.Proofs.Dev
set_option linter.unusedSimpArgs false
set_option maxRecDepth 100000

theorem s_spec_LiftOneA (W T : Int) (cs : List Bool) (ls : List Int) (c : Int) (hr : regB W T cs = true) (hy : laysB W T cs ls = true) :
    SoundAt Tryz.prog n_spec_LiftOne [.agg [.v (.int .i64 W), .v (.int .i64 T), .sl 1 1 (bools cs)], .sl 1 1 (ints ls), .v (.int .i64 c)]
      (.tup [.os 1 (ints (liftR W T cs ls c)), .v (.bool (liftRB W T cs ls c))]) [.bot, .bot, .bot] := by
  have hl := lays_len hy
  have h36 := regB_len hr
  by_cases hin : 0 ≤ c ∧ c < ls.length
  · have := s_spec_LiftOne W T cs ls c.toNat hr hy (by omega)
    rw [show ((c.toNat : Nat) : Int) = c by omega] at this
    by_cases hz : ati ls c = 0
    · have e : liftHas ls c = false := by simp [liftHas, hz]
      rw [if_pos hz] at this
      simpa [liftR, liftRB, hr, hy, e] using this
    · have e : liftHas ls c = true := by simp [liftHas, hz, hin]
      rw [if_neg hz] at this
      simpa [liftR, liftRB, hr, hy, e] using this
  · have e : liftHas ls c = false := by simp [liftHas]; omega
    refine fn_ok (md := md5) (ms := [false, false, false]) k_spec_LiftOne (by simp) ?_
    simp [c_spec_LiftOne, liftR, liftRB, hr, hy, e]
    refine call_on (s_spec_LaidOk W T cs ls (by omega) (by omega)) ?_
    simp [hr, hy]
    refine ⟨by omega, by omega, ?_⟩
    refine call_on (s_spec_l1In_f (x := c) (lo := 0) (hi := (ls.length : Int) - 1) (by omega)) ?_
    simp

/-- What a deed lays, and whether it may. -/
def nextL (W T : Int) (cs : List Bool) (ds ls : List Int) (kind spot way : Int) : List Int :=
  if kind = 0 then layOneL W T cs ls spot way else if kind = 1 then (if liftHas ls spot = true then liftI W T ls spot else ls) else if kind = 2 then flipI W T ls spot else if kind = 3 then forceAllI W T cs ds ls else []
def nextB (W T : Int) (cs : List Bool) (ds ls : List Int) (kind spot way : Int) : Bool :=
  if kind = 0 then freeB W T cs ls spot way else if kind = 1 then liftHas ls spot else if kind = 2 then flipB W T ls spot else if kind = 3 then decide (forceAllI W T cs ds ls ≠ ls) else false
def doI (W T : Int) (cs : List Bool) (ds ls : List Int) (ps : List (List Int)) (kind spot way : Int) : Bool × List Int × List (List Int) :=
  doRes (needB (kind, spot, way)) kind ls ps (nextL W T cs ds ls kind spot way) (nextB W T cs ds ls kind spot way && fairB W T cs ds (nextL W T cs ds ls kind spot way))

theorem forceAllI_length (W T : Int) (cs : List Bool) (ds ls : List Int) : (forceAllI W T cs ds ls).length = ls.length := by unfold forceAllI; rw [forceAllN_length]
theorem nextL_length (W T : Int) (cs : List Bool) (ds ls : List Int) (kind spot way : Int) : (nextL W T cs ds ls kind spot way).length ≤ ls.length := by
  unfold nextL
  split
  · rw [layOneL_length]; exact Nat.le_refl _
  split
  · split
    · rw [liftI_length]; exact Nat.le_refl _
    · exact Nat.le_refl _
  split
  · rw [flipI_length]; exact Nat.le_refl _
  split
  · rw [forceAllI_length]; exact Nat.le_refl _
  · simp

/-- What a valid book is. -/
theorem book_parts {W T : Int} {cs : List Bool} {ds ls : List Int} {ps : List (List Int)} (h : bookB W T cs ds ls ps = true) :
    fairB W T cs ds ls = true ∧ ps.length ≤ 20 ∧ ∀ p ∈ ps, fairB W T cs ds p = true := by
  simp only [bookB, pastB, Bool.and_eq_true, decide_eq_true_eq, allB_iff] at h
  refine ⟨h.1.1, h.1.2, fun p hp => ?_⟩
  obtain ⟨i, hi, rfl⟩ := List.mem_iff_getElem.1 hp
  have := h.2 i hi
  rwa [pti_get hi] at this
theorem book_of {W T : Int} {cs : List Bool} {ds ls : List Int} {ps : List (List Int)} (h1 : fairB W T cs ds ls = true) (h2 : ps.length ≤ 20) (h3 : ∀ p ∈ ps, fairB W T cs ds p = true) : bookB W T cs ds ls ps = true := by
  simp only [bookB, pastB, Bool.and_eq_true, decide_eq_true_eq, allB_iff]
  refine ⟨⟨h1, h2⟩, fun i hi => ?_⟩
  rw [pti_get hi]
  exact h3 _ (List.getElem_mem hi)
theorem fair_len {W T : Int} {cs : List Bool} {ds ls : List Int} (h : fairB W T cs ds ls = true) : cs.length ≤ 36 ∧ ds.length = cs.length ∧ ls.length = cs.length := by
  obtain ⟨hr, hd, hy, _⟩ := fair_parts h
  have hd2 := hd
  simp only [digsB, Bool.and_eq_true, decide_eq_true_eq] at hd2
  exact ⟨regB_len hr, hd2.1, lays_len hy⟩

theorem needB_kind {k s w : Int} (h : needB (k, s, w) = true) : k = 0 ∨ k = 1 ∨ k = 2 ∨ k = 3 ∨ k = 4 := by
  unfold needB at h
  simp only at h
  split at h
  · omega
  split at h
  · omega
  split at h
  · omega
  · cases h

theorem doRes_back {ls q : List Int} {qs : List (List Int)} {n : List Int} {b : Bool} : doRes true 4 ls (qs ++ [q]) n b = (true, q, qs) := by simp [doRes]
theorem doRes_none {ls : List Int} {n : List Int} {b : Bool} : doRes true 4 ls [] n b = (false, ls, []) := by simp [doRes]

theorem s_spec_BookDo (W T : Int) (cs : List Bool) (ds ls : List Int) (ps : List (List Int)) (kind spot way : Int)
    (hc : cs.length ≤ 40) (hd : ds.length ≤ 40) (hl : ls.length ≤ 40) (hps : ps.length ≤ 40) (hp : ∀ p ∈ ps, p.length ≤ 40) :
    SoundAt Tryz.prog n_spec_BookDo [bkA W T cs ds ls ps, deedV kind spot way]
      (.tup [if bookB W T cs ds ls ps = true then bkO W T cs ds (doI W T cs ds ls ps kind spot way).2.1 (doI W T cs ds ls ps kind spot way).2.2 else bkO 0 0 [] [] [] [], .v (.bool (bookB W T cs ds ls ps && (doI W T cs ds ls ps kind spot way).1))]) [.bot, .bot] := by
  have hv := s_spec_BookValid W T cs ds ls ps (by omega) (by omega) (by omega) (by omega) (fun p h => by have := hp p h; omega)
  cases ok : bookB W T cs ds ls ps with
  | false =>
    rw [ok] at hv
    refine fn_ok (md := md5) (ms := [false, false]) k_spec_BookDo (by simp) ?_
    simp [c_spec_BookDo]
    refine call_on hv ?_
    simp
  | true =>
  rw [ok] at hv
  obtain ⟨hf, h20, hpf⟩ := book_parts ok
  obtain ⟨hr, hdg, hy, ho⟩ := fair_parts hf
  obtain ⟨l36, ld, ll⟩ := fair_len hf
  have hnl := nextL_length W T cs ds ls kind spot way
  have hnew := s_spec_BookNew W T cs ds (by omega) (by omega)
  have enew : newB W T cs ds = bkO W T cs ds (noneL cs) [] := by simp [newB, hr, hdg]
  rw [enew] at hnew
  have hcopy := s_spec_l10Copy k_spec_l10Copy W T cs ds ls (noneL cs) ps hc hd hl (by omega) hp (by simp [noneL]; omega) hnew
  have hnamed := s_spec_l10Named (kind, spot, way)
  refine SoundSet.at (SoundSet.mono ?_ (s_spec_BookDoS k_spec_BookDo W T cs ds ls ps kind spot way hc hd hl h20 hp true (needB (kind, spot, way)) (nextL W T cs ds ls kind spot way) (nextB W T cs ds ls kind spot way)
    (if regB W T cs && laysB W T cs (nextL W T cs ds ls kind spot way) then (domN (nextL W T cs ds ls kind spot way) : Int) else -1) (if regB W T cs && laysB W T cs ls then (domN ls : Int) else -1) hv (fun _ => hcopy) hnamed
    ?_ ?_ ?_ ?_ (s_spec_LaidMany W T cs _ (by omega) (by omega)) (s_spec_LaidMany W T cs ls (by omega) (by omega)) ?_ (by omega)
    (fun r ups => r = .tup [bkO W T cs ds (doI W T cs ds ls ps kind spot way).2.1 (doI W T cs ds ls ps kind spot way).2.2, .v (.bool (doI W T cs ds ls ps kind spot way).1)] ∧ ups = [.bot, .bot]) ?_ ?_ ?_ ?_ ?_ ?_))
  · rintro r ups ⟨rfl, rfl⟩
    exact ⟨by simp, rfl⟩
  · rintro _ rfl
    have := s_spec_LayOne W T cs ls spot way hr hy
    simpa [nextL, nextB] using this
  · rintro _ rfl
    have := s_spec_LiftOneA W T cs ls spot hr hy
    simpa [nextL, nextB, liftR, liftRB, hr, hy] using this
  · rintro _ rfl
    have := s_spec_FlipOne W T cs ls spot (by omega) (by omega)
    simpa [nextL, nextB, flipL, mayI, hr, hy] using this
  · rintro _ rfl
    have := s_spec_ForceAll W T cs ds ls (by omega) (by omega) (by omega)
    simpa [nextL, nextB, forceAllL, hf] using this
  · rintro _ rfl
    have h1 := forceAll_grow hf
    have h2 := (forceAll_facts hf).1
    obtain ⟨_, _, hy2, _⟩ := fair_parts h2
    simp only [nextB, nextL]
    simp [hr, hy, hy2]
    by_cases hq : forceAllI W T cs ds ls = ls
    · have : ¬ domN ls < domN (forceAllI W T cs ds ls) := fun h => h1.1 h hq
      simp [hq]
    · simp [hq, h1.2 hq]
  · intro h; cases h
  · intro _ hn
    have e : doI W T cs ds ls ps kind spot way = (false, ls, ps) := by simp [doI, doRes, hn]
    rw [e]; exact ⟨rfl, rfl⟩
  · intro _ hn hk he
    have hk4 : kind = 4 := by have := needB_kind hn; omega
    subst hk4 he
    have e : doI W T cs ds ls [] 4 spot way = (false, ls, []) := by unfold doI; rw [hn, doRes_none]
    rw [e]; exact ⟨rfl, rfl⟩
  · intro _ hn hk q qs he
    have hk4 : kind = 4 := by have := needB_kind hn; omega
    subst hk4 he
    have e : doI W T cs ds ls (qs ++ [q]) 4 spot way = (true, q, qs) := by unfold doI; rw [hn, doRes_back]
    rw [e]; exact ⟨rfl, rfl⟩
  · intro _ hn hk hb
    have e : doI W T cs ds ls ps kind spot way = (false, ls, ps) := by unfold doI; rw [hb]; simp [doRes]; omega
    rw [e]; exact ⟨rfl, rfl⟩
  · intro _ hn hk hb
    have e : doI W T cs ds ls ps kind spot way = (true, nextL W T cs ds ls kind spot way, bkPast ls ps) := by unfold doI; rw [hb, hn]; simp [doRes]; omega
    rw [e]; exact ⟨rfl, rfl⟩
end Go.Proofs.Dev

namespace Go.Proofs.Dev

-- 3 parameters, results [.t 6], 36 slots, modes [true, false, false]
@[simp] abbrev n_spec_l20Corner : Nat := 167

def c_spec_l20Corner : ACode := .seq (.reg [.o 4 .box [.t 1], .o 6 .mv [.k 0]]) <| .seq (.reg [.la 8 3 4, .m 9 2, .o 10 (.call 224 []) [.t 8, .t 9],
 .m 7 10]) <| .seq (.seq (.reg [.m 11 7, .n 12 11, .o 13 (.bin .gtr 0) [.t 12, .k 0], .m 14 13, .mg 15 0 14 true, .g 16 (.call 54 []) [.t 15, .k 3] 14 true,
 .g 17 (.bin .gtr 0) [.t 16, .k 0] 14 true, .o 18 .pick [.t 14, .t 17, .kb false]]) <| .cond (.t 18) ( .seq (.reg [.m 19 7, .m 20 0, .m 21 7, .n 22 21,
 .o 23 (.call 54 []) [.t 20, .t 22], .o 24 (.iadr 1) [.t 19, .t 23], .l 25 24, .m 6 25]) <| .ret) ( .skip)) <| .seq (.reg [.m 26 0, .la 27 3 4,
 .o 28 (.call 225 []) [.t 27], .o 29 (.mnx false) [.t 28, .k 0], .o 30 (.bin .add 0) [.t 29, .k 1], .o 31 (.call 54 []) [.t 26, .t 30], .m 32 0,
 .o 33 (.call 54 []) [.t 32, .k 20], .o 34 (.bin .quo 0) [.t 33, .k 19], .o 35 (.bin .sub 0) [.t 31, .t 34], .m 6 35]) <| .ret

theorem k_spec_l20Corner : cFn Tryz.prog n_spec_l20Corner 36 [.t 6] c_spec_l20Corner := ⟨Tryz.f167, _, Tryz.func167, rfl, by kernel_rfl, by kernel_rfl, by kernel_rfl, by kernel_rfl⟩

-- 2 parameters, results [.c 4 true 3], 87 slots, modes [true, false]
@[simp] abbrev n_spec_l20Deed : Nat := 120
def c_spec_l20Deed_L0 : ACode := .seq (.seq (.reg [.m 35 7, .o 36 (.bin .lss 0) [.t 35, .k 4], .m 37 36, .fg 38 1 5 37 true, .lg 39 38 37 true,
 .fg 40 4 3 37 true, .lg 41 40 37 true, .g 42 (.len false) [.t 41] 37 true, .g 43 (.bin .lss 0) [.t 39, .t 42] 37 true, .o 44 .pick [.t 37, .t 43, .kb false],
 .m 45 44, .fg 46 4 3 45 true, .lg 47 46 45 true, .fg 48 1 5 45 true, .lg 49 48 45 true, .g 50 (.iadr 1) [.t 47, .t 49] 45 true, .lg 51 50 45 true,
 .g 52 (.bin .neq 0) [.t 51, .k 0] 45 true, .o 53 .pick [.t 45, .t 52, .kb false]]) <| .cond (.t 53) ( .skip) ( .exit 1)) <| .seq (.block 2 ( .reg [.f 56 1 5,
 .l 57 56, .o 58 (.bin .add 0) [.t 57, .k 1], .m 59 6, .o 60 (.bin .rem 0) [.t 58, .t 59], .f 61 1 5, .s (.store 1) [.t 61, .t 60]])) <| .reg [.m 54 7,
 .o 55 (.bin .add 0) [.t 54, .k 1], .m 7 55]

def c_spec_l20Deed_T1 : ACode := .seq (.reg [.la 86 3 5, .s (.store 3) [.t 4, .t 86]]) <| .ret

abbrev c_spec_l20Deed_T2_p0 : Plan := .take (.o 83 (.bin .add 0) [.t 80, .t 82]) <| .take (.o 84 (.bin .sub 0) [.t 83, .k 5]) <| .take (.f 85 1 5) <| .al (.s (.store 1) [.t 85, .t 84]) ( .done)
def c_spec_l20Deed_T2 : ACode := .seq (.reg [.f 19 4 3, .l 20 19, .n 21 20, .o 22 (.mnx false) [.t 21, .k 1], .m 6 22]) <| .seq (.seq (.reg [.f 23 0 5,
 .l 24 23]) <| .block 0 ( .seq (.reg [.o 26 (.bin .eql 0) [.t 24, .k 0], .m 25 26]) <| .cond (.t 25) ( .seq (.reg [.m 27 0, .m 28 6, .o 29 (.call 54 []) [.t 27,
 .t 28], .f 30 1 5, .s (.store 1) [.t 30, .t 29]]) <| .seq (.reg [.m 31 0, .o 32 (.call 54 []) [.t 31, .k 4], .o 33 (.bin .add 0) [.k 1, .t 32], .f 34 2 5,
 .s (.store 1) [.t 34, .t 33]]) <| .seq (.reg [.o 7 .mv [.k 0]]) <| .block 1 ( .loop [] [0, 3, 4, 5, 6, 7,
 87] c_spec_l20Deed_L0)) ( .seq (.reg [.o 63 (.bin .eql 0) [.t 24, .k 1], .m 62 63]) <| .cond (.t 62) ( .reg [.m 64 0, .m 65 6, .o 66 (.call 54 []) [.t 64,
 .t 65], .f 67 1 5, .s (.store 1) [.t 67, .t 66]]) ( .seq (.reg [.o 69 (.bin .eql 0) [.t 24, .k 2], .m 68 69]) <| .cond (.t 68) ( .reg [.m 70 0, .f 71 0 3,
 .la 72 3 71, .f 73 4 3, .l 74 73, .o 75 (.call 167 []) [.t 70, .t 72, .t 74], .f 76 1 5, .s (.store 1) [.t 76, .t 75]]) ( .skip))))) <|
 .seq (.seq (.reg [.m 77 0, .o 78 (.call 45 []) [.t 77, .k 30]]) <| .cond (.t 78) ( .draw ( .take (.f 79 1 5) <| .take (.m 81 0) <|
 .alt (.l 80 79) ( .al (.o 82 (.call 54 []) [.t 81, .k 60]) c_spec_l20Deed_T2_p0) <| .al (.o 82 (.call 54 []) [.t 81,
 .k 60]) ( .al (.l 80 79) c_spec_l20Deed_T2_p0))) ( .skip)) <| .gc [] [4, 5, 87] c_spec_l20Deed_T1

abbrev c_spec_l20Deed_p0 : Plan := .al (.o 14 (.call 54 []) [.t 13, .k 60]) ( .take (.o 15 (.bin .quo 0) [.t 14, .k 59]) <| .take (.o 16 (.bin .mul 0) [.t 15, .k 5]) <| .take (.o 17 (.bin .add 0) [.t 12, .t 16]) <| .take (.o 18 (.build dz [(0, 1)]) [.t 17]) <| .al (.s (.store 3) [.t 5, .t 18]) ( .done))
abbrev c_spec_l20Deed_p1 : Plan := .take (.o 17 (.bin .add 0) [.t 12, .t 16]) <| .take (.o 18 (.build dz [(0, 1)]) [.t 17]) <| .al (.s (.store 3) [.t 5, .t 18]) ( .done)
abbrev c_spec_l20Deed_p2 : Plan := .take (.o 11 (.iadr 1) [.t 8, .t 10]) <| .alt (.l 12 11) ( .alt (.o 14 (.call 54 []) [.t 13, .k 60]) ( .take (.o 15 (.bin .quo 0) [.t 14, .k 59]) <| .take (.o 16 (.bin .mul 0) [.t 15, .k 5]) <| .take (.o 17 (.bin .add 0) [.t 12, .t 16]) <| .take (.o 18 (.build dz [(0, 1)]) [.t 17]) <| .al (.o 5 (.alloc dz) []) ( .al (.s (.store 3) [.t 5, .t 18]) ( .done))) <| .al (.o 5 (.alloc dz) []) c_spec_l20Deed_p0) <| .alt (.o 14 (.call 54 []) [.t 13, .k 60]) ( .take (.o 15 (.bin .quo 0) [.t 14, .k 59]) <| .take (.o 16 (.bin .mul 0) [.t 15, .k 5]) <| .alt (.l 12 11) ( .take (.o 17 (.bin .add 0) [.t 12, .t 16]) <| .take (.o 18 (.build dz [(0, 1)]) [.t 17]) <| .al (.o 5 (.alloc dz) []) ( .al (.s (.store 3) [.t 5, .t 18]) ( .done))) <| .al (.o 5 (.alloc dz) []) ( .al (.l 12 11) c_spec_l20Deed_p1)) <| .al (.o 5 (.alloc dz) []) ( .alt (.l 12 11) c_spec_l20Deed_p0 <| .al (.o 14 (.call 54 []) [.t 13, .k 60]) ( .take (.o 15 (.bin .quo 0) [.t 14, .k 59]) <| .take (.o 16 (.bin .mul 0) [.t 15, .k 5]) <| .al (.l 12 11) c_spec_l20Deed_p1))
abbrev c_spec_l20Deed_p3 : Plan := .take (.o 11 (.iadr 1) [.t 8, .t 10]) <| .alt (.l 12 11) c_spec_l20Deed_p0 <| .al (.o 14 (.call 54 []) [.t 13, .k 60]) ( .take (.o 15 (.bin .quo 0) [.t 14, .k 59]) <| .take (.o 16 (.bin .mul 0) [.t 15, .k 5]) <| .al (.l 12 11) c_spec_l20Deed_p1)
abbrev c_spec_l20Deed_p4 : Plan := .alt (.o 8 (.bsl 1) [.k 0, .k 0, .k 0, .k 0, .k 1, .k 2, .k 2, .k 3, .k 4]) c_spec_l20Deed_p3 <| .al (.o 14 (.call 54 []) [.t 13, .k 60]) ( .take (.o 15 (.bin .quo 0) [.t 14, .k 59]) <| .take (.o 16 (.bin .mul 0) [.t 15, .k 5]) <| .al (.o 8 (.bsl 1) [.k 0, .k 0, .k 0, .k 0, .k 1, .k 2, .k 2, .k 3, .k 4]) ( .take (.o 11 (.iadr 1) [.t 8, .t 10]) <| .al (.l 12 11) c_spec_l20Deed_p1))
def c_spec_l20Deed : ACode := .seq (.reg [.o 3 .box [.t 1], .o 4 (.alloc dz) []]) <| .seq (.draw ( .take (.m 9 0) <| .take (.m 13 0) <|
 .alt (.o 8 (.bsl 1) [.k 0, .k 0, .k 0, .k 0, .k 1, .k 2, .k 2, .k 3, .k 4]) ( .alt (.o 10 (.call 54 []) [.t 9, .k 9]) c_spec_l20Deed_p2 <| .al (.o 5 (.alloc dz) []) ( .al (.o 10 (.call 54 []) [.t 9, .k 9]) c_spec_l20Deed_p3)) <|
 .alt (.o 10 (.call 54 []) [.t 9, .k 9]) ( .alt (.o 8 (.bsl 1) [.k 0, .k 0, .k 0, .k 0, .k 1, .k 2, .k 2, .k 3, .k 4]) c_spec_l20Deed_p2 <| .alt (.o 14 (.call 54 []) [.t 13, .k 60]) ( .take (.o 15 (.bin .quo 0) [.t 14, .k 59]) <|
 .take (.o 16 (.bin .mul 0) [.t 15, .k 5]) <| .alt (.o 8 (.bsl 1) [.k 0, .k 0, .k 0, .k 0, .k 1, .k 2, .k 2, .k 3, .k 4]) ( .take (.o 11 (.iadr 1) [.t 8,
 .t 10]) <| .alt (.l 12 11) ( .take (.o 17 (.bin .add 0) [.t 12, .t 16]) <| .take (.o 18 (.build dz [(0, 1)]) [.t 17]) <|
 .al (.o 5 (.alloc dz) []) ( .al (.s (.store 3) [.t 5, .t 18]) ( .done))) <| .al (.o 5 (.alloc dz) []) ( .al (.l 12 11) c_spec_l20Deed_p1)) <| .al (.o 5 (.alloc dz) []) ( .al (.o 8 (.bsl 1) [.k 0,
 .k 0, .k 0, .k 0, .k 1, .k 2, .k 2, .k 3, .k 4]) ( .take (.o 11 (.iadr 1) [.t 8, .t 10]) <| .al (.l 12 11) c_spec_l20Deed_p1))) <| .al (.o 5 (.alloc dz) []) c_spec_l20Deed_p4) <| .al (.o 5 (.alloc dz) []) ( .alt (.o 8 (.bsl 1) [.k 0, .k 0, .k 0, .k 0, .k 1, .k 2, .k 2,
 .k 3, .k 4]) ( .al (.o 10 (.call 54 []) [.t 9, .k 9]) c_spec_l20Deed_p3) <| .al (.o 10 (.call 54 []) [.t 9,
 .k 9]) c_spec_l20Deed_p4))) <| .gc [] [0, 3, 4, 5, 87] c_spec_l20Deed_T2

theorem k_spec_l20Deed : cFn Tryz.prog n_spec_l20Deed 87 [.c 4 true 3] c_spec_l20Deed := ⟨Tryz.f120, _, Tryz.func120, rfl, by kernel_rfl, by kernel_rfl, by kernel_rfl, by kernel_rfl⟩

-- 2 parameters, results [.c 4 true 6], 64 slots, modes [true, false]
@[simp] abbrev n_spec_l20Book : Nat := 57
abbrev c_spec_l20Book_L0_p0 : Plan := .al (.o 30 (.call 73 []) [.t 26, .t 29]) ( .take (.m 25 30) <| .take (.e 31 0 25) <| .take (.e 32 1 25) <| .al (.s (.store 6) [.t 9, .t 31]) ( .take (.m 10 32) <| .done))
abbrev c_spec_l20Book_L0_p1 : Plan := .alt (.o 30 (.call 73 []) [.t 26, .t 29]) ( .take (.m 25 30) <| .take (.e 31 0 25) <| .take (.e 32 1 25) <| .al (.o 9 (.alloc bz) []) ( .al (.s (.store 6) [.t 9, .t 31]) ( .take (.m 10 32) <| .done))) <| .al (.o 9 (.alloc bz) []) c_spec_l20Book_L0_p0
abbrev c_spec_l20Book_L0_p2 : Plan := .al (.o 29 (.call 120 []) [.t 27, .t 28]) c_spec_l20Book_L0_p0
abbrev c_spec_l20Book_L0_p3 : Plan := .alt (.la 26 6 7) c_spec_l20Book_L0_p2 <| .al (.o 29 (.call 120 []) [.t 27, .t 28]) ( .al (.la 26 6 7) c_spec_l20Book_L0_p0)
abbrev c_spec_l20Book_L0_p4 : Plan := .alt (.o 29 (.call 120 []) [.t 27, .t 28]) c_spec_l20Book_L0_p1 <| .al (.o 9 (.alloc bz) []) c_spec_l20Book_L0_p2
def c_spec_l20Book_L0 : ACode := .seq (.seq (.reg [.m 21 8, .o 22 (.bin .gtr 0) [.t 21, .k 0]]) <| .cond (.t 22) ( .skip) ( .exit 0)) <|
 .seq (.block 1 ( .seq (.draw ( .take (.m 27 0) <| .alt (.la 26 6 7) ( .alt (.la 28 6 7) c_spec_l20Book_L0_p4 <|
 .al (.o 9 (.alloc bz) []) ( .al (.la 28 6 7) c_spec_l20Book_L0_p2)) <|
 .alt (.la 28 6 7) ( .alt (.la 26 6 7) c_spec_l20Book_L0_p4 <|
 .alt (.o 29 (.call 120 []) [.t 27, .t 28]) ( .alt (.la 26 6 7) c_spec_l20Book_L0_p1 <| .al (.o 9 (.alloc bz) []) ( .al (.la 26 6 7) c_spec_l20Book_L0_p0)) <|
 .al (.o 9 (.alloc bz) []) c_spec_l20Book_L0_p3) <|
 .al (.o 9 (.alloc bz) []) ( .alt (.la 26 6 7) ( .al (.la 28 6 7) c_spec_l20Book_L0_p2) <|
 .al (.la 28 6 7) c_spec_l20Book_L0_p3))) <| .seq (.reg [.m 33 10]) <| .cond (.t 33) ( .reg [.la 34 6 9, .s (.store 6) [.t 7,
 .t 34]]) ( .skip))) <| .reg [.m 23 8, .o 24 (.bin .sub 0) [.t 23, .k 1], .m 8 24]

def c_spec_l20Book : ACode := .seq (.reg [.o 4 (.alloc bz) []]) <| .seq (.reg [.m 12 0, .o 13 (.call 118 []) [.t 12, .k 0], .m 11 13, .e 14 0 11, .e 15 1 11,
 .o 5 (.alloc rz) [], .s (.store 3) [.t 5, .t 14], .m 6 15]) <| .seq (.reg [.la 16 3 5, .m 17 6, .o 18 (.call 119 []) [.t 16, .t 17], .o 7 (.alloc bz) [],
 .s (.store 6) [.t 7, .t 18]]) <| .seq (.seq (.reg [.m 19 0, .o 20 (.call 54 []) [.t 19, .k 14], .m 8 20]) <| .block 0 ( .loop [] [0, 1, 4, 7, 8,
 64] c_spec_l20Book_L0)) <| .seq (.seq (.reg [.m 35 0, .m 36 1, .o 37 (.call 45 []) [.t 35, .t 36]]) <| .cond (.t 37) ( .seq (.reg [.m 38 0,
 .o 39 (.call 54 []) [.t 38, .k 4]]) <| .block 2 ( .seq (.reg [.o 46 (.bin .eql 0) [.t 39, .k 0], .m 45 46]) <| .cond (.t 45) ( .reg [.f 47 4 7, .l 48 47,
 .o 49 (.bsl 1) [.k 0], .o 50 (.app 1 8 true) [.t 48, .t 49], .f 51 4 7, .s (.store 1) [.t 51, .t 50]]) ( .seq (.reg [.o 53 (.bin .eql 0) [.t 39, .k 1],
 .m 52 53]) <| .cond (.t 52) ( .reg [.f 54 5 7, .l 55 54, .o 56 (.bsl 1) [.k 9], .o 57 (.bsl 1) [.t 56], .o 58 (.app 1 24 false) [.t 55, .t 57], .f 59 5 7,
 .s (.store 1) [.t 59, .t 58]]) ( .seq (.reg [.o 61 (.bin .eql 0) [.t 39, .k 2], .m 60 61]) <| .cond (.t 60) ( .seq (.reg [.o 62 (.build bz []) [],
 .s (.store 6) [.t 4, .t 62]]) <| .ret) ( .reg [.f 40 3 7, .l 41 40, .o 42 (.bsl 1) [.k 0], .o 43 (.app 1 8 true) [.t 41, .t 42], .f 44 3 7,
 .s (.store 1) [.t 44, .t 43]]))))) ( .skip)) <| .seq (.reg [.la 63 6 7, .s (.store 6) [.t 4, .t 63]]) <| .ret

theorem k_spec_l20Book : cFn Tryz.prog n_spec_l20Book 64 [.c 4 true 6] c_spec_l20Book := ⟨Tryz.f57, _, Tryz.func57, rfl, by kernel_rfl, by kernel_rfl, by kernel_rfl, by kernel_rfl⟩

-- 1 parameters, results [.c 2 true 6, .t 3], 18 slots, modes [false]
@[simp] abbrev n_spec_DrawBookRun : Nat := 17
-- 2 parameters, results [.t 4], 35 slots, modes [true, false]
@[simp] abbrev n_spec_l20Deeds : Nat := 58
def c_spec_l20Deeds_L0 : ACode := .seq (.seq (.reg [.m 15 7, .o 16 (.bin .gtr 0) [.t 15, .k 0]]) <| .cond (.t 16) ( .skip) ( .exit 0)) <|
 .seq (.block 1 ( .seq (.reg [.m 19 0, .la 20 6 6, .o 21 (.call 120 []) [.t 19, .t 20], .o 8 (.alloc dz) [], .s (.store 3) [.t 8, .t 21]]) <|
 .seq (.reg [.la 23 6 6, .la 24 3 8, .o 25 (.call 73 []) [.t 23, .t 24], .m 22 25, .e 26 0 22, .e 27 1 22, .o 9 (.alloc bz) [], .s (.store 6) [.t 9, .t 26],
 .m 10 27]) <| .seq (.seq (.reg [.m 28 10]) <| .cond (.t 28) ( .reg [.la 29 6 9, .s (.store 6) [.t 6, .t 29]]) ( .skip)) <| .reg [.m 30 5, .la 31 3 8,
 .o 32 (.bsl 3) [.t 31], .o 33 (.app 3 24 true) [.t 30, .t 32], .m 5 33])) <| .reg [.m 17 7, .o 18 (.bin .sub 0) [.t 17, .k 1], .m 7 18]

def c_spec_l20Deeds : ACode := .seq (.reg [.o 3 .box [.t 1], .o 4 .mv [.c (.os 3 [])]]) <| .seq (.reg [.o 11 (.bsl 3) [], .m 5 11]) <| .seq (.reg [.la 12 6 3,
 .o 6 (.alloc bz) [], .s (.store 6) [.t 6, .t 12]]) <| .seq (.seq (.reg [.m 13 0, .o 14 (.call 54 []) [.t 13, .k 12], .m 7 14]) <| .block 0 ( .loop [(5, 3)] [0,
 5, 6, 7, 35] c_spec_l20Deeds_L0)) <| .seq (.reg [.m 34 5, .m 4 34]) <| .ret

theorem k_spec_l20Deeds : cFn Tryz.prog n_spec_l20Deeds 35 [.t 4] c_spec_l20Deeds := ⟨Tryz.f58, _, Tryz.func58, rfl, by kernel_rfl, by kernel_rfl, by kernel_rfl, by kernel_rfl⟩

end Go.Proofs.Dev

namespace Go.Proofs.Dev
set_option linter.unusedSimpArgs false
set_option maxRecDepth 100000

/-- Who takes ownership: of the reader. -/
@[simp] def md8 (f : Nat) : List Bool := if f = n_spec_l20Corner then [true, false, false] else if f = n_spec_l20Deed ∨ f = n_spec_l20Book ∨ f = n_spec_l20Deeds then [true, false] else if f = 999999 ∨ f = 999999 ∨ f = 999999 ∨ f = 999999 ∨ f = n_spec_DrawBookRun ∨ f = 999999 then [true] else md5 f

def cornSet (bs : List Int) (p : Nat) (r : AV) (ups : List AV) : Prop := ∃ (x : Int) (q : Nat), -1 ≤ x ∧ x ≤ 49 ∧ q ≤ p + 3 ∧ r = .v (.int .i64 x) ∧ ups = [rdA bs q, .bot, .bot]

theorem s_spec_l20Corner (bs : List Int) (p : Nat) (W T : Int) (cs : List Bool) (ls : List Int) (hb : bs.length ≤ 2000) (hB : Byt bs) (hp : p < 2 ^ 39) (hc : cs.length < 2 ^ 40) (hl : ls.length < 2 ^ 40) :
    SoundSet Tryz.prog n_spec_l20Corner [rdA bs p, .agg [.v (.int .i64 W), .v (.int .i64 T), .sl 1 1 (bools cs)], .sl 1 1 (ints ls)] (cornSet bs p) := by
  refine fn_okS (md := md8) (ms := [true, false, false]) k_spec_l20Corner (by simp) ?_
  have fl := s_spec_FlipsOf W T cs ls hc hl
  have h49 := flipsTo_length W T cs ls (corN W T cs)
  have hn49 := corN_le W T cs
  have hmem := @flipsTo_mem W T cs ls (corN W T cs)
  change (flipsI W T cs ls).length ≤ _ at h49
  change ∀ {x : Int}, x ∈ flipsI W T cs ls → _ at hmem
  have cm := s_spec_CornerMany W T cs hc
  obtain ⟨M, hM, m1, m2⟩ : ∃ M : Int, (if regB W T cs = true then corI W T else -1) = M ∧ -1 ≤ M ∧ M ≤ 49 := by
    refine ⟨_, rfl, ?_⟩
    split
    · rename_i hr
      obtain ⟨w1, w2, t1, t2, _⟩ := regB_W hr
      have := cor_in w1 w2 t1 t2
      omega
    · omega
  rw [hM] at cm
  generalize flipsI W T cs ls = fs at *
  simp [c_spec_l20Corner]
  refine call_on fl ?_
  by_cases hz : fs = []
  · subst hz
    simp
    refine call_on cm ?_
    simp
    refine ⟨by split <;> omega, ?_⟩
    refine call_onK (s_spec_l20Rd_pick bs p ((if M < 0 then 0 else M) + 1) hb hB (by omega)) [0] (by simp) (by simp) (by simp) ?_
    rintro _ _ ⟨x, x0, x1, rfl, rfl⟩
    simp
    refine call_onK (s_spec_l20Rd_pick bs (p + 1) 20 hb hB (by omega)) [0] (by simp) (by simp) (by simp) ?_
    rintro _ _ ⟨y, y0, y1, rfl, rfl⟩
    simp
    have hx : x ≤ 49 := by split at x1 <;> omega
    refine ⟨by omega, by omega, _, _, ⟨x - y / 19, p + 1 + 1, by omega, by omega, by omega, rfl, rfl⟩, ?_⟩
    simp
  · have hz0 : 0 < fs.length := by
      cases fs with
      | nil => exact absurd rfl hz
      | cons a l => simp
    have hz1 : (0 : Int) < fs.length := by omega
    simp [hz, hz0, hz1]
    refine call_onK (s_spec_l20Rd_pick bs p 3 hb hB (by omega)) [0] (by simp) (by simp) (by simp) ?_
    rintro _ _ ⟨x, x0, x1, rfl, rfl⟩
    by_cases hx : 0 < x
    · simp [hx]
      refine call_onK (s_spec_l20Rd_pick bs (p + 1) fs.length hb hB (by omega)) [0] (by simp) (by simp) (by simp) ?_
      rintro _ _ ⟨y, y0, y1, rfl, rfl⟩
      have y2 : y < fs.length := by omega
      have hy : ati fs y ∈ fs := by
        have : y.toNat < fs.length := by omega
        simp [ati, this]
      have := hmem hy
      have hg : (ints fs)[y.toNat]? = some (.v (.int .i64 (ati fs y))) := ints_get (by omega)
      have hmx : max y 0 = y := by omega
      simp [y0, y2, hg, hmx]
      refine ⟨_, _, ⟨ati fs y, p + 1 + 1, by omega, by omega, by omega, rfl, rfl⟩, ?_⟩
      simp
    · simp [hx]
      refine call_on cm ?_
      simp
      refine ⟨by split <;> omega, ?_⟩
      refine call_onK (s_spec_l20Rd_pick bs (p + 1) ((if M < 0 then 0 else M) + 1) hb hB (by omega)) [0] (by simp) (by simp) (by simp) ?_
      rintro _ _ ⟨z, z0, z1, rfl, rfl⟩
      simp
      refine call_onK (s_spec_l20Rd_pick bs (p + 1 + 1) 20 hb hB (by omega)) [0] (by simp) (by simp) (by simp) ?_
      rintro _ _ ⟨y, y0, y1, rfl, rfl⟩
      simp
      have hx : z ≤ 49 := by split at z1 <;> omega
      refine ⟨by omega, by omega, _, _, ⟨z - y / 19, p + 1 + 1 + 1, by omega, by omega, by omega, rfl, rfl⟩, ?_⟩
      simp

def deedSet (bs : List Int) (p : Nat) (r : AV) (ups : List AV) : Prop := ∃ (k s w : Int) (q : Nat), 0 ≤ k ∧ k ≤ 20 ∧ -100 ≤ s ∧ s ≤ 200 ∧ 0 ≤ w ∧ w ≤ 4 ∧ q ≤ p + 10 ∧ r = deedV k s w ∧ ups = [rdA bs q, .bot]

abbrev nd9 : List AV := [AV.v (.int .i64 0), AV.v (.int .i64 0), AV.v (.int .i64 0), AV.v (.int .i64 0), AV.v (.int .i64 1), AV.v (.int .i64 2), AV.v (.int .i64 2), AV.v (.int .i64 3), AV.v (.int .i64 4)]
theorem nd9get {x : Int} (h0 : 0 ≤ x) (h1 : x < 9) : ∃ v : Int, 0 ≤ v ∧ v ≤ 4 ∧ ∀ h : x.toNat < nd9.length, nd9[x.toNat]'h = .v (.int .i64 v) := by
  obtain rfl | rfl | rfl | rfl | rfl | rfl | rfl | rfl | rfl : x = 0 ∨ x = 1 ∨ x = 2 ∨ x = 3 ∨ x = 4 ∨ x = 5 ∨ x = 6 ∨ x = 7 ∨ x = 8 := by omega
  · exact ⟨0, by decide, by decide, fun _ => rfl⟩
  · exact ⟨0, by decide, by decide, fun _ => rfl⟩
  · exact ⟨0, by decide, by decide, fun _ => rfl⟩
  · exact ⟨0, by decide, by decide, fun _ => rfl⟩
  · exact ⟨1, by decide, by decide, fun _ => rfl⟩
  · exact ⟨2, by decide, by decide, fun _ => rfl⟩
  · exact ⟨2, by decide, by decide, fun _ => rfl⟩
  · exact ⟨3, by decide, by decide, fun _ => rfl⟩
  · exact ⟨4, by decide, by decide, fun _ => rfl⟩

abbrev dedF (bs : List Int) (p : Nat) := FinS [RV.c 4 true 3] 87 2 [true, false] (deedSet bs p)
abbrev dedH (bs : List Int) (q : Nat) (W T : Int) (cs : List Bool) (ds ls : List Int) (ps : List (List Int)) (k s w : Int) : Heap :=
  [some (.box [.sl 0 1 (u8s bs), .v (.int .i64 q)]), some (.box [.v (.int .i64 W), .v (.int .i64 T), .sl 1 1 (bools cs), .sl 1 1 (ints ds), .sl 1 1 (ints ls), .sl 1 1 (sls 1 ps)]), some (.box [.v (.int .i64 0), .v (.int .i64 0), .v (.int .i64 0)]),
    some (.box [.v (.int .i64 k), .v (.int .i64 s), .v (.int .i64 w)])]

abbrev c_dedTail_p0 : Plan := .take (.o 83 (.bin .add 0) [.t 80, .t 82]) <| .take (.o 84 (.bin .sub 0) [.t 83, .k 5]) <| .take (.f 85 1 5) <| .al (.s (.store 1) [.t 85, .t 84]) ( .done)
def c_dedTail : ACode := .seq (.seq (.reg [.m 77 0, .o 78 (.call 45 []) [.t 77, .k 30]]) <| .cond (.t 78) ( .draw ( .take (.f 79 1 5) <| .take (.m 81 0) <|
 .alt (.l 80 79) ( .al (.o 82 (.call 54 []) [.t 81, .k 60]) c_dedTail_p0) <| .al (.o 82 (.call 54 []) [.t 81,
 .k 60]) ( .al (.l 80 79) c_dedTail_p0))) ( .skip)) <| .gc [] [4, 5, 87] c_spec_l20Deed_T1
def c_dedSw : ACode := .block 0 ( .seq (.reg [.o 26 (.bin .eql 0) [.t 24, .k 0], .m 25 26]) <| .cond (.t 25) ( .seq (.reg [.m 27 0, .m 28 6,
 .o 29 (.call 54 []) [.t 27, .t 28], .f 30 1 5, .s (.store 1) [.t 30, .t 29]]) <| .seq (.reg [.m 31 0, .o 32 (.call 54 []) [.t 31, .k 4],
 .o 33 (.bin .add 0) [.k 1, .t 32], .f 34 2 5, .s (.store 1) [.t 34, .t 33]]) <| .seq (.reg [.o 7 .mv [.k 0]]) <| .block 1 ( .loop [] [0, 3, 4, 5, 6, 7,
 87] c_spec_l20Deed_L0)) ( .seq (.reg [.o 63 (.bin .eql 0) [.t 24, .k 1], .m 62 63]) <| .cond (.t 62) ( .reg [.m 64 0, .m 65 6, .o 66 (.call 54 []) [.t 64,
 .t 65], .f 67 1 5, .s (.store 1) [.t 67, .t 66]]) ( .seq (.reg [.o 69 (.bin .eql 0) [.t 24, .k 2], .m 68 69]) <| .cond (.t 68) ( .reg [.m 70 0, .f 71 0 3,
 .la 72 3 71, .f 73 4 3, .l 74 73, .o 75 (.call 167 []) [.t 70, .t 72, .t 74], .f 76 1 5, .s (.store 1) [.t 76, .t 75]]) ( .skip))))
theorem ded_parts : c_spec_l20Deed_T2 = .seq (.reg [.f 19 4 3,
    .l 20 19,
    .n 21 20,
    .o 22 (.mnx false) [.t 21, .k 1],
    .m 6 22]) (.seq (.seq (.reg [.f 23 0 5,
    .l 24 23]) c_dedSw) c_dedTail) := rfl

theorem ded_end (bs : List Int) (p q : Nat) (k s w : Int) (hq : q ≤ p + 10) (hk : 0 ≤ k ∧ k ≤ 20) (hs : -100 ≤ s ∧ s ≤ 200) (hw : 0 ≤ w ∧ w ≤ 4) :
    awp Tryz.prog md8 c_spec_l20Deed_T1 (dedF bs p) [(4, .lp 0 0 0 0), (5, .lp 0 1 0 0), (87, .lp 0 2 0 0)]
      [some (.box [.v (.int .i64 0), .v (.int .i64 0), .v (.int .i64 0)]), some (.box [.v (.int .i64 k), .v (.int .i64 s), .v (.int .i64 w)]), some (.box [.sl 0 1 (u8s bs), .v (.int .i64 q)])] := by
  simp [c_spec_l20Deed_T1]
  refine ⟨_, _, ⟨k, s, w, q, hk.1, hk.2, hs.1, hs.2, hw.1, hw.2, hq, rfl, rfl⟩, ?_⟩
  simp

theorem ded_tail (bs : List Int) (p q : Nat) (W T : Int) (cs : List Bool) (ds ls : List Int) (ps : List (List Int)) (k s w : Int) (hb : bs.length ≤ 2000) (hB : Byt bs) (hp : p < 2 ^ 38) (hq : q ≤ p + 8) (hk : 0 ≤ k ∧ k ≤ 20) (hs : -90 ≤ s ∧ s ≤ 140) (hw : 0 ≤ w ∧ w ≤ 4) (E : ES)
    (e0 : get E 0 = .lp 0 0 0 0) (e4 : get E 4 = .lp 0 2 0 0) (e5 : get E 5 = .lp 0 3 0 0) (e87 : get E 87 = .lp 0 0 0 0) :
    awp Tryz.prog md8 c_dedTail (dedF bs p) E (dedH bs q W T cs ds ls ps k s w) := by
  simp [c_dedTail, e0, e4, e5, e87]
  refine call_onK (s_spec_l20Rd_odd bs q 30 hb hB (by omega) (by omega)) [0] (by simp) (by simp) (by simp) ?_
  rintro _ _ ⟨b, q2, rfl, hq2, rfl⟩
  cases b with
  | false =>
    simp [get_purgeE, e0, e4, e5, e87]
    exact ded_end bs p q2 k s w (by omega) hk (by omega) hw
  | true =>
    simp [get_purgeE, e0, e4, e5, e87]
    (repeat' first | omega | apply And.intro) <;>
    · refine call_onK (s_spec_l20Rd_pick bs q2 60 hb hB (by omega)) [0] (by simp) (by simp) (by simp) ?_
      rintro _ _ ⟨x, x0, x1, rfl, rfl⟩
      simp [get_purgeE, e0, e4, e5, e87]
      exact ⟨by omega, by omega, ded_end bs p (q2 + 1) k (s + x - 5) w (by omega) hk (by omega) hw⟩

theorem ded_loop (bs : List Int) (q : Nat) (W T : Int) (cs : List Bool) (ds ls : List Int) (ps : List (List Int)) (k s w : Int) (hl : ls.length ≤ 40) (n : Int) (hn : n = if (ls.length : Int) < 1 then 1 else (ls.length : Int)) (hs : 0 ≤ s ∧ s < n) (Qc : AExit → ES → Heap → Prop)
    (hend : ∀ (s : Int) (E : ES), 0 ≤ s → s ≤ 40 → get E 0 = .lp 0 0 0 0 → get E 4 = .lp 0 2 0 0 → get E 5 = .lp 0 3 0 0 → get E 87 = .lp 0 0 0 0 → Qc (.exit 1) E (dedH bs q W T cs ds ls ps k s w)) :
    loopNode [] [0, 3, 4, 5, 6, 7, 87] (awp Tryz.prog md8 c_spec_l20Deed_L0) Qc
      [(0, .lp 0 0 0 0), (3, .lp 0 1 0 0), (4, .lp 0 2 0 0), (5, .lp 0 3 0 0), (6, .v (.int .i64 n)), (7, .v (.int .i64 0)), (87, .lp 0 0 0 0)] (dedH bs q W T cs ds ls ps k s w) := by
  have n40 : 1 ≤ n ∧ n ≤ 40 := by rw [hn]; split <;> omega
  refine loop_by (fun m E H => ∃ (i : Nat) (s : Int), m = 4 - i ∧ i ≤ 4 ∧ 0 ≤ s ∧ s < n ∧ E = [(0, .lp 0 0 0 0), (3, .lp 0 1 0 0), (4, .lp 0 2 0 0), (5, .lp 0 3 0 0), (6, .v (.int .i64 n)), (7, .v (.int .i64 i)), (87, .lp 0 0 0 0)] ∧
    H = dedH bs q W T cs ds ls ps k s w) 4 ⟨0, s, rfl, by omega, hs.1, hs.2, rfl, rfl⟩ ?_
  rintro J hJ m E H ⟨i, s, rfl, hi, s0, s1, rfl, rfl⟩
  by_cases h4 : i < 4
  case neg =>
    have : i = 4 := by omega
    subst this
    simp [c_spec_l20Deed_L0]
    exact hend s _ s0 (by omega) rfl rfl rfl rfl
  have h4' : (i : Int) < 4 := by omega
  by_cases hsl : s < ls.length
  case neg =>
    simp [c_spec_l20Deed_L0, h4', hsl]
    exact hend s _ s0 (by omega) rfl rfl rfl rfl
  by_cases hz : ati ls s = 0
  · simp [c_spec_l20Deed_L0, h4', hsl, s0, hz]
    exact hend s _ s0 (by omega) rfl rfl rfl rfl
  · have r0 := Int.emod_nonneg (s + 1) (show n ≠ 0 by omega)
    have r1 := Int.emod_lt_of_pos (s + 1) (show 0 < n by omega)
    simp [c_spec_l20Deed_L0, h4', hsl, s0, hz]
    exact ⟨by omega, by omega, by omega, _, by omega, hJ _ _ _ ⟨i + 1, (s + 1) % n, rfl, by omega, r0, r1, by simp, rfl⟩⟩

set_option maxHeartbeats 2000000 in
theorem ded_T2 (bs : List Int) (p q : Nat) (W T : Int) (cs : List Bool) (ds ls : List Int) (ps : List (List Int)) (k : Int) (hb : bs.length ≤ 2000) (hB : Byt bs) (hp : p < 2 ^ 38) (hc : cs.length ≤ 40) (hd : ds.length ≤ 40) (hl : ls.length ≤ 40)
    (hq : q ≤ p + 2) (hk : 0 ≤ k ∧ k ≤ 20) :
    awp Tryz.prog md8 c_spec_l20Deed_T2 (dedF bs p) [(0, .lp 0 0 0 0), (3, .lp 0 1 0 0), (4, .lp 0 2 0 0), (5, .lp 0 3 0 0), (87, .lp 0 0 0 0)] (dedH bs q W T cs ds ls ps k 0 0) := by
  have n40 : 1 ≤ (if (ls.length : Int) < 1 then 1 else (ls.length : Int)) ∧ (if (ls.length : Int) < 1 then 1 else (ls.length : Int)) ≤ 40 := by split <;> omega
  have pkn : SoundSet Tryz.prog n_spec_l20Rd_pick [rdA bs q, .v (.int .i64 (if (ls.length : Int) < 1 then 1 else (ls.length : Int)))] (pickSet bs (if (ls.length : Int) < 1 then 1 else (ls.length : Int)) q) := s_spec_l20Rd_pick bs q _ hb hB (by omega)
  rw [ded_parts]
  simp
  by_cases h0 : k = 0
  · subst h0
    simp [c_dedSw]
    refine call_onK pkn [0] (by simp) (by simp) (by simp) ?_
    rintro _ _ ⟨x, x0, x1, rfl, rfl⟩
    simp
    refine call_onK (s_spec_l20Rd_pick bs (q + 1) 4 hb hB (by omega)) [0] (by simp) (by simp) (by simp) ?_
    rintro _ _ ⟨y, y0, y1, rfl, rfl⟩
    simp
    refine ⟨by omega, ?_⟩
    refine ded_loop bs (q + 1 + 1) W T cs ds ls ps 0 x (1 + y) hl (if (ls.length : Int) < 1 then 1 else (ls.length : Int)) rfl (by omega) _ ?_
    intro s E s0 s1 e0 e4 e5 e87
    simp
    exact ded_tail bs p (q + 1 + 1) W T cs ds ls ps 0 s (1 + y) hb hB hp (by omega) hk (by omega) (by omega) E e0 e4 e5 e87
  by_cases h1 : k = 1
  · subst h1
    simp [c_dedSw]
    refine call_onK pkn [0] (by simp) (by simp) (by simp) ?_
    rintro _ _ ⟨x, x0, x1, rfl, rfl⟩
    simp
    exact ded_tail bs p (q + 1) W T cs ds ls ps 1 x 0 hb hB hp (by omega) hk (by omega) (by omega) _ rfl rfl rfl rfl
  by_cases h2 : k = 2
  · subst h2
    simp [c_dedSw]
    refine call_onK (s_spec_l20Corner bs q W T cs ls hb hB (by omega) (by omega) (by omega)) [0] (by simp) (by simp) (by simp) ?_
    rintro _ _ ⟨x, q2, x0, x1, hq2, rfl, rfl⟩
    simp
    exact ded_tail bs p q2 W T cs ds ls ps 2 x 0 hb hB hp (by omega) hk (by omega) (by omega) _ rfl rfl rfl rfl
  · simp [c_dedSw, h0, h1, h2]
    exact ded_tail bs p q W T cs ds ls ps k 0 0 hb hB hp (by omega) hk (by omega) (by omega) _ rfl rfl rfl rfl

set_option maxHeartbeats 20000000 in
theorem s_spec_l20Deed (bs : List Int) (p : Nat) (W T : Int) (cs : List Bool) (ds ls : List Int) (ps : List (List Int)) (hb : bs.length ≤ 2000) (hB : Byt bs) (hp : p < 2 ^ 38) (hc : cs.length ≤ 40) (hd : ds.length ≤ 40) (hl : ls.length ≤ 40) :
    SoundSet Tryz.prog n_spec_l20Deed [rdA bs p, bkA W T cs ds ls ps] (deedSet bs p) := by
  refine fn_okS (md := md8) (ms := [true, false]) k_spec_l20Deed (by simp) ?_
  have pk9 : ∀ q, q ≤ p + 2 → SoundSet Tryz.prog n_spec_l20Rd_pick [rdA bs q, .v (.int .i64 9)] (pickSet bs 9 q) := fun q hq => s_spec_l20Rd_pick bs q 9 hb hB (by omega)
  have pk60 : ∀ q, q ≤ p + 2 → SoundSet Tryz.prog n_spec_l20Rd_pick [rdA bs q, .v (.int .i64 60)] (pickSet bs 60 q) := fun q hq => s_spec_l20Rd_pick bs q 60 hb hB (by omega)
  have fin : ∀ (q : Nat) (k : Int), q ≤ p + 2 → 0 ≤ k ∧ k ≤ 20 → awp Tryz.prog md8 c_spec_l20Deed_T2 (dedF bs p) [(0, .lp 0 0 0 0), (3, .lp 0 1 0 0), (4, .lp 0 2 0 0), (5, .lp 0 3 0 0), (87, .lp 0 0 0 0)] (dedH bs q W T cs ds ls ps k 0 0) :=
    fun q k hq hk => ded_T2 bs p q W T cs ds ls ps k hb hB hp hc hd hl hq hk
  simp [c_spec_l20Deed]
  repeat' first
    | omega
    | apply And.intro
    | (refine call_onK (pk9 p (by omega)) [0] ?_ ?_ ?_ ?_
       · simp
       · simp
       · simp
       rintro _ _ ⟨x, x0, x1, rfl, rfl⟩
       obtain ⟨v, v0, v4, hv⟩ := nd9get x0 (by omega)
       have x9 : x < 9 := by omega
       simp [x0, hv, x9])
    | (refine call_onK (pk9 (p + 1) (by omega)) [0] ?_ ?_ ?_ ?_
       · simp
       · simp
       · simp
       rintro _ _ ⟨x, x0, x1, rfl, rfl⟩
       obtain ⟨v, v0, v4, hv⟩ := nd9get x0 (by omega)
       have x9 : x < 9 := by omega
       simp [x0, hv, x9])
    | (refine call_onK (pk60 (p + 1) (by omega)) [0] ?_ ?_ ?_ ?_
       · simp
       · simp
       · simp
       rintro _ _ ⟨y, y0, y1, rfl, rfl⟩
       simp [x0, hv, x9])
    | (refine call_onK (pk60 p (by omega)) [0] ?_ ?_ ?_ ?_
       · simp
       · simp
       · simp
       rintro _ _ ⟨y, y0, y1, rfl, rfl⟩
       simp)
    | (refine fin (p + 1 + 1) _ (by omega) ?_)
end Go.Proofs.Dev
