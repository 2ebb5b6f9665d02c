/- Contracts of the functions of the program over slots and rows, each proved against the program itself; no condition beyond those that each theorem names. -/
import Derived.Test.YtakaenhgbkbegaaGreatAN
import Derived.Test.YtakaenhgbkbegaaGreatAJ
import Derived.Test.YtakaenhgbkbegaaGreatAL
import Derived.Test.YtakaenhgbkbegaaGreatProg

set_option linter.unusedSimpArgs false
set_option linter.unusedVariables false

namespace Go.Proofs.Dev
-- 1 parameters, results [.t 2], 8 slots, modes [false]
@[simp] abbrev n_slices_Clone_ints : Nat := 159

def c_slices_Clone_ints : ACode := .seq (.reg [.o 2 .mv [.c (.os 1 [])]]) <| .seq (.seq (.reg [.m 3 0, .o 4 (.nilq false) [.t 3]]) <|
 .cond (.t 4) ( .seq (.reg [.o 2 .mv [.c (.os 1 [])]]) <| .ret) ( .skip)) <| .seq (.reg [.o 5 (.bsl 1) [], .m 6 0, .o 7 (.app 1 24 false) [.t 5, .t 6],
 .m 2 7]) <| .ret

-- 1 parameters, results [.t 2], 6 slots, modes [false]
@[simp] abbrev n_impl_clone_ints : Nat := 124

def c_impl_clone_ints : ACode := .seq (.reg [.o 2 .mv [.c (.os 1 [])]]) <| .seq (.reg [.m 3 0, .o 4 (.call 159 []) [.t 3], .o 5 (.call 145 []) [.t 4],
 .m 2 5]) <| .ret

-- 2 parameters, results [.t 4, .t 5], 72 slots, modes [false, false]
@[simp] abbrev n_impl_Book_laidBy : Nat := 125

abbrev c_impl_Book_laidBy_p0 : Plan := .al (.o 25 (.call 160 []) [.t 16, .t 20, .t 22, .t 24]) ( .take (.e 26 0 25) <| .take (.e 27 1 25) <| .take (.m 4 26) <| .take (.m 5 27) <| .done)
abbrev c_impl_Book_laidBy_p1 : Plan := .al (.o 37 (.call 161 []) [.t 30, .t 34, .t 36]) ( .take (.e 38 0 37) <| .take (.e 39 1 37) <| .take (.m 4 38) <| .take (.m 5 39) <| .done)
abbrev c_impl_Book_laidBy_p2 : Plan := .al (.o 49 (.call 162 []) [.t 42, .t 46, .t 48]) ( .take (.e 50 0 49) <| .take (.e 51 1 49) <| .take (.m 4 50) <| .take (.m 5 51) <| .done)
abbrev c_impl_Book_laidBy_p3 : Plan := .al (.o 63 (.call 163 []) [.t 54, .t 58, .t 62]) ( .take (.m 7 63) <| .done)
abbrev c_impl_Book_laidBy_p4 : Plan := .alt (.la 16 3 6) ( .al (.l 24 23) c_impl_Book_laidBy_p0) <| .al (.l 24 23) ( .al (.la 16 3 6) c_impl_Book_laidBy_p0)
abbrev c_impl_Book_laidBy_p5 : Plan := .alt (.la 16 3 6) ( .al (.l 22 21) c_impl_Book_laidBy_p0) <| .al (.l 22 21) ( .al (.la 16 3 6) c_impl_Book_laidBy_p0)
abbrev c_impl_Book_laidBy_p6 : Plan := .alt (.la 16 3 6) ( .al (.l 20 19) c_impl_Book_laidBy_p0) <| .al (.l 20 19) ( .al (.la 16 3 6) c_impl_Book_laidBy_p0)
abbrev c_impl_Book_laidBy_p7 : Plan := .alt (.l 22 21) ( .al (.l 24 23) c_impl_Book_laidBy_p0) <| .al (.l 24 23) ( .al (.l 22 21) c_impl_Book_laidBy_p0)
abbrev c_impl_Book_laidBy_p8 : Plan := .alt (.l 20 19) ( .al (.l 24 23) c_impl_Book_laidBy_p0) <| .al (.l 24 23) ( .al (.l 20 19) c_impl_Book_laidBy_p0)
abbrev c_impl_Book_laidBy_p9 : Plan := .alt (.l 20 19) ( .al (.l 22 21) c_impl_Book_laidBy_p0) <| .al (.l 22 21) ( .al (.l 20 19) c_impl_Book_laidBy_p0)
def c_impl_Book_laidBy : ACode := .seq (.reg [.o 3 .box [.t 1], .o 4 .mv [.c (.os 1 [])], .o 5 .mv [.kb false]]) <| .seq (.reg [.m 8 0, .o 9 .nilck [.t 8],
 .f 10 0 9, .la 11 3 10, .o 6 (.alloc rz) [], .s (.store 3) [.t 6, .t 11]]) <| .seq (.seq (.reg [.f 12 0 3, .l 13 12]) <|
 .block 0 ( .seq (.reg [.o 15 (.bin .eql 0) [.t 13, .k 0], .m 14 15]) <| .cond (.t 14) ( .seq (.draw ( .take (.m 17 0) <| .take (.o 18 .nilck [.t 17]) <|
 .take (.f 19 4 18) <| .take (.f 21 1 3) <| .take (.f 23 2 3) <|
 .alt (.la 16 3 6) ( .alt (.l 20 19) c_impl_Book_laidBy_p7 <|
 .alt (.l 22 21) c_impl_Book_laidBy_p8 <|
 .al (.l 24 23) c_impl_Book_laidBy_p9) <|
 .alt (.l 20 19) ( .alt (.la 16 3 6) c_impl_Book_laidBy_p7 <|
 .alt (.l 22 21) c_impl_Book_laidBy_p4 <|
 .al (.l 24 23) c_impl_Book_laidBy_p5) <|
 .alt (.l 22 21) ( .alt (.la 16 3 6) c_impl_Book_laidBy_p8 <|
 .alt (.l 20 19) c_impl_Book_laidBy_p4 <|
 .al (.l 24 23) c_impl_Book_laidBy_p6) <|
 .al (.l 24 23) ( .alt (.la 16 3 6) c_impl_Book_laidBy_p9 <|
 .alt (.l 20 19) c_impl_Book_laidBy_p5 <|
 .al (.l 22 21) c_impl_Book_laidBy_p6))) <| .ret) ( .seq (.reg [.o 29 (.bin .eql 0) [.t 13,
 .k 1], .m 28 29]) <| .cond (.t 28) ( .seq (.draw ( .take (.m 31 0) <| .take (.o 32 .nilck [.t 31]) <| .take (.f 33 4 32) <| .take (.f 35 1 3) <|
 .alt (.la 30 3 6) ( .alt (.l 34 33) ( .al (.l 36 35) c_impl_Book_laidBy_p1) <| .al (.l 36 35) ( .al (.l 34 33) c_impl_Book_laidBy_p1)) <|
 .alt (.l 34 33) ( .alt (.la 30 3 6) ( .al (.l 36 35) c_impl_Book_laidBy_p1) <| .al (.l 36 35) ( .al (.la 30 3 6) c_impl_Book_laidBy_p1)) <| .al (.l 36 35) ( .alt (.la 30 3 6) ( .al (.l 34 33) c_impl_Book_laidBy_p1) <|
 .al (.l 34 33) ( .al (.la 30 3 6) c_impl_Book_laidBy_p1)))) <| .ret) ( .seq (.reg [.o 41 (.bin .eql 0) [.t 13, .k 2], .m 40 41]) <| .cond (.t 40) ( .seq (.draw ( .take (.m 43 0) <|
 .take (.o 44 .nilck [.t 43]) <| .take (.f 45 4 44) <| .take (.f 47 1 3) <|
 .alt (.la 42 3 6) ( .alt (.l 46 45) ( .al (.l 48 47) c_impl_Book_laidBy_p2) <| .al (.l 48 47) ( .al (.l 46 45) c_impl_Book_laidBy_p2)) <|
 .alt (.l 46 45) ( .alt (.la 42 3 6) ( .al (.l 48 47) c_impl_Book_laidBy_p2) <| .al (.l 48 47) ( .al (.la 42 3 6) c_impl_Book_laidBy_p2)) <| .al (.l 48 47) ( .alt (.la 42 3 6) ( .al (.l 46 45) c_impl_Book_laidBy_p2) <|
 .al (.l 46 45) ( .al (.la 42 3 6) c_impl_Book_laidBy_p2)))) <| .ret) ( .seq (.reg [.o 53 (.bin .eql 0) [.t 13, .k 3], .m 52 53]) <| .cond (.t 52) ( .seq (.draw ( .take (.m 55 0) <|
 .take (.o 56 .nilck [.t 55]) <| .take (.f 57 3 56) <| .take (.m 59 0) <| .take (.o 60 .nilck [.t 59]) <| .take (.f 61 4 60) <|
 .alt (.la 54 3 6) ( .alt (.l 58 57) ( .al (.l 62 61) c_impl_Book_laidBy_p3) <|
 .al (.l 62 61) ( .al (.l 58 57) c_impl_Book_laidBy_p3)) <|
 .alt (.l 58 57) ( .alt (.la 54 3 6) ( .al (.l 62 61) c_impl_Book_laidBy_p3) <|
 .al (.l 62 61) ( .al (.la 54 3 6) c_impl_Book_laidBy_p3)) <|
 .al (.l 62 61) ( .alt (.la 54 3 6) ( .al (.l 58 57) c_impl_Book_laidBy_p3) <|
 .al (.l 58 57) ( .al (.la 54 3 6) c_impl_Book_laidBy_p3)))) <| .seq (.reg [.m 64 7, .m 65 7, .m 66 0,
 .o 67 .nilck [.t 66], .f 68 4 67, .l 69 68, .o 70 (.call 164 []) [.t 65, .t 69], .o 71 (.un .not) [.t 70], .m 4 64, .m 5 71]) <| .ret) ( .skip)))))) <|
 .seq (.reg [.o 4 .mv [.c (.os 1 [])], .o 5 .mv [.kb false]]) <| .ret

-- 2 parameters, results [.t 4], 90 slots, modes [false, false]
@[simp] abbrev n_impl_Book_do : Nat := 65
def c_impl_Book_do_T0 : ACode := .seq (.reg [.m 76 0, .m 77 0, .m 78 6, .m 79 8, .m 80 8, .n 81 80, .o 82 (.bin .sub 0) [.t 81, .k 20],
 .o 83 (.mnx false) [.k 0, .t 82], .o 84 (.slice 1 false true false false) [.t 79, .t 83], .o 85 (.call 124 []) [.t 84], .o 86 .nilck [.t 76], .f 87 4 86,
 .s (.store 1) [.t 87, .t 78], .o 88 .nilck [.t 77], .f 89 5 88, .s (.store 1) [.t 89, .t 85]]) <| .lg <| .seq (.reg [.o 4 .mv [.kb true]]) <| .ret

abbrev c_impl_Book_do_T1_p0 : Plan := .al (.o 75 (.app 1 24 false) [.t 69, .t 74]) ( .take (.m 8 75) <| .done)
abbrev c_impl_Book_do_T1_p1 : Plan := .alt (.o 69 (.call 124 []) [.t 68]) ( .al (.o 74 (.bsl 1) [.t 73]) c_impl_Book_do_T1_p0) <| .al (.o 74 (.bsl 1) [.t 73]) ( .al (.o 69 (.call 124 []) [.t 68]) c_impl_Book_do_T1_p0)
def c_impl_Book_do_T1 : ACode := .seq (.draw ( .take (.m 65 0) <| .take (.o 66 .nilck [.t 65]) <| .take (.f 67 5 66) <| .take (.m 70 0) <|
 .take (.o 71 .nilck [.t 70]) <| .take (.f 72 4 71) <|
 .alt (.l 68 67) ( .alt (.o 69 (.call 124 []) [.t 68]) ( .al (.l 73 72) ( .al (.o 74 (.bsl 1) [.t 73]) c_impl_Book_do_T1_p0)) <|
 .al (.l 73 72) c_impl_Book_do_T1_p1) <|
 .al (.l 73 72) ( .alt (.l 68 67) c_impl_Book_do_T1_p1 <|
 .al (.o 74 (.bsl 1) [.t 73]) ( .al (.l 68 67) ( .al (.o 69 (.call 124 []) [.t 68]) c_impl_Book_do_T1_p0))))) <| .lg c_impl_Book_do_T0

abbrev c_impl_Book_do_T2_p0 : Plan := .al (.g 62 (.call 107 []) [.t 56, .t 60, .t 61] 52 false) ( .take (.g 63 (.un .not) [.t 62] 52 false) <| .take (.o 64 .pick [.t 52, .kb true, .t 63]) <| .done)
def c_impl_Book_do_T2 : ACode := .seq (.reg [.m 45 0, .la 46 3 3, .o 47 (.call 125 []) [.t 45, .t 46], .m 44 47, .e 48 0 44, .e 49 1 44, .m 6 48, .m 7 49]) <|
 .seq (.seq (.draw ( .take (.m 50 7) <| .take (.o 51 (.un .not) [.t 50]) <| .take (.m 52 51) <| .take (.mg 53 0 52 false) <|
 .take (.g 54 .nilck [.t 53] 52 false) <| .take (.fg 55 0 54 52 false) <| .take (.mg 57 0 52 false) <| .take (.g 58 .nilck [.t 57] 52 false) <|
 .take (.fg 59 3 58 52 false) <| .take (.mg 61 6 52 false) <|
 .alt (.g 56 (.load true 3) [.t 55] 52 false) ( .al (.lg 60 59 52 false) c_impl_Book_do_T2_p0) <|
 .al (.lg 60 59 52 false) ( .al (.g 56 (.load true 3) [.t 55] 52 false) c_impl_Book_do_T2_p0))) <|
 .cond (.t 64) ( .seq (.reg [.o 4 .mv [.kb false]]) <| .ret) ( .skip)) <| .lg c_impl_Book_do_T1

abbrev c_impl_Book_do_D_p0 : Plan := .take (.o 40 .nilck [.t 22]) <| .take (.f 41 4 40) <| .al (.s (.store 1) [.t 41, .t 31]) ( .take (.o 42 .nilck [.t 23]) <| .take (.f 43 5 42) <| .al (.s (.store 1) [.t 43, .t 39]) ( .done))
def c_impl_Book_do_D : ACode := .draw ( .take (.m 22 0) <| .take (.m 23 0) <| .take (.m 24 0) <| .take (.o 25 .nilck [.t 24]) <| .take (.f 26 5 25) <|
 .take (.m 28 5) <| .take (.o 29 (.bin .sub 0) [.t 28, .k 1]) <| .take (.m 32 0) <| .take (.o 33 .nilck [.t 32]) <| .take (.f 34 5 33) <| .take (.m 36 5) <|
 .take (.o 37 (.bin .sub 0) [.t 36, .k 1]) <| .alt (.l 27 26) ( .take (.o 30 (.iadr 1) [.t 27, .t 29]) <|
 .alt (.l 31 30) ( .al (.l 35 34) ( .take (.o 38 (.slice 1 false false true false) [.t 35, .t 37]) <|
 .al (.o 39 (.call 124 []) [.t 38]) c_impl_Book_do_D_p0)) <| .al (.l 35 34) ( .take (.o 38 (.slice 1 false false true false) [.t 35, .t 37]) <|
 .alt (.l 31 30) ( .al (.o 39 (.call 124 []) [.t 38]) c_impl_Book_do_D_p0) <|
 .al (.o 39 (.call 124 []) [.t 38]) ( .al (.l 31 30) c_impl_Book_do_D_p0))) <|
 .al (.l 35 34) ( .take (.o 38 (.slice 1 false false true false) [.t 35, .t 37]) <| .alt (.l 27 26) ( .take (.o 30 (.iadr 1) [.t 27, .t 29]) <|
 .alt (.l 31 30) ( .al (.o 39 (.call 124 []) [.t 38]) c_impl_Book_do_D_p0) <|
 .al (.o 39 (.call 124 []) [.t 38]) ( .al (.l 31 30) c_impl_Book_do_D_p0)) <|
 .al (.o 39 (.call 124 []) [.t 38]) ( .al (.l 27 26) ( .take (.o 30 (.iadr 1) [.t 27, .t 29]) <| .al (.l 31 30) c_impl_Book_do_D_p0))))

def c_impl_Book_do : ACode := .seq (.reg [.o 3 .box [.t 1], .o 4 .mv [.kb false]]) <| .seq (.seq (.reg [.la 9 3 3, .o 10 (.call 123 []) [.t 9],
 .o 11 (.un .not) [.t 10]]) <| .cond (.t 11) ( .seq (.reg [.o 4 .mv [.kb false]]) <| .ret) ( .skip)) <| .seq (.seq (.reg [.m 12 0, .o 13 .nilck [.t 12],
 .f 14 5 13, .l 15 14, .n 16 15, .m 5 16]) <| .seq (.reg [.f 17 0 3, .l 18 17, .o 19 (.bin .eql 0) [.t 18, .k 4]]) <| .cond (.t 19) ( .seq (.seq (.reg [.m 20 5,
 .o 21 (.bin .eql 0) [.t 20, .k 0]]) <| .cond (.t 21) ( .seq (.reg [.o 4 .mv [.kb false]]) <| .ret) ( .skip)) <| .lg <| .seq (c_impl_Book_do_D) <| .lg <|
 .seq (.reg [.o 4 .mv [.kb true]]) <| .ret) ( .skip)) <| c_impl_Book_do_T2

-- 2 parameters, results [.c 4 true 6, .t 5], 18 slots, modes [false, false]
@[simp] abbrev n_impl_BookDo : Nat := 18

def c_impl_BookDo : ACode := .seq (.reg [.o 2 .box [.t 0], .o 3 .box [.t 1], .o 4 (.alloc bz) [], .o 5 .mv [.kb false]]) <| .seq (.seq (.reg [.la 8 6 2,
 .o 9 (.call 19 []) [.t 8], .o 10 (.un .not) [.t 9]]) <| .cond (.t 10) ( .seq (.reg [.o 11 (.build bz []) [], .s (.store 6) [.t 4, .t 11],
 .o 5 .mv [.kb false]]) <| .ret) ( .skip)) <| .seq (.reg [.la 12 6 2, .o 13 (.call 64 []) [.t 12], .o 6 (.alloc bz) [], .s (.store 6) [.t 6, .t 13]]) <|
 .seq (.reg [.la 14 3 3, .o 15 (.call 65 []) [.t 6, .t 14], .m 7 15]) <| .seq (.reg [.la 16 6 6, .m 17 7, .s (.store 6) [.t 4, .t 16], .m 5 17]) <| .ret

end Go.Proofs.Dev

namespace Go.Proofs.Dev
set_option linter.unusedSimpArgs false
set_option maxRecDepth 100000

@[simp] def deedV (kind spot way : Int) : AV := .agg [.v (.int .i64 kind), .v (.int .i64 spot), .v (.int .i64 way)]
attribute [simp] anil
def rawL (us : List Value) : List AV := us.map AV.v
@[simp] theorem rawL_length (us : List Value) : (rawL us).length = us.length := by simp [rawL]
theorem oneE_oss (ps : List (List Int)) : oneE (oss ps) := by
  intro e he
  obtain ⟨p, _, rfl⟩ := List.mem_map.1 he
  rfl
theorem vwL_raw (c : Nat) (us : List Value) : vwL c (rawL us) = rawL us := by
  induction us with
  | nil => rfl
  | cons u us ih => show vw c (.v u) :: vwL c (rawL us) = .v u :: rawL us; rw [ih]; rfl

@[simp] def mdo (f : Nat) : List Bool := if f = 65 then [true, false] else []
@[simp] def boxO (W T : Int) (cs : List Bool) (ds ls : List Int) (ps : List (List Int)) : AV := .op [.v (.int .i64 W), .v (.int .i64 T), .os 1 (bools cs), .os 1 (ints ds), .os 1 (ints ls), .os 1 (oss ps)]

set_option maxHeartbeats 4000000 in
theorem s_impl_do_back (k : cFn Tryz.prog n_impl_Book_do 90 [.t 4] c_impl_Book_do) (W T : Int) (cs : List Bool) (ds ls q : List Int) (qs : List (List Int)) (spot way : Int)
    (hq : qs.length ≤ 100)
    (hneeds : SoundAt Tryz.prog 123 [deedV 4 spot way] (.v (.bool true)) [.bot])
    (hclone : ∀ us : List Value, us.length < 2 ^ 40 → (∀ u ∈ us, u.oneCell' = true) → SoundAt Tryz.prog 124 [.sl 1 1 (rawL us)] (.os 1 (rawL us)) [.bot]) :
    SoundAt Tryz.prog n_impl_Book_do [boxO W T cs ds ls (qs ++ [q]), deedV 4 spot way] (.v (.bool true)) [boxO W T cs ds q qs, .bot] := by
  refine fn_ok (md := mdo) (ms := [true, false]) k (by simp) ?_
  simp [c_impl_Book_do]
  refine call_on hneeds ?_
  have e1 : ¬ ((qs.length : Int) + 1 = 0) := by omega
  simp [e1]
  refine Lg.takeAll 4 _ rfl (oneE_oss _) ?_
  intro us hus hok
  obtain ⟨vs, v, rfl⟩ : ∃ vs v, us = vs ++ [v] := by
    rcases List.eq_nil_or_concat us with rfl | ⟨vs, v, h⟩
    · simp [oss] at hus
    · exact ⟨vs, v, by rw [h, List.concat_eq_append]⟩
  have hvs : vs.length = qs.length := by simp [oss] at hus; exact hus
  have hv1 : v.oneCell' = true := hok (okL_oss _) v (by simp)
  have hone : ∀ u ∈ vs, u.oneCell' = true := fun u hu => hok (okL_oss _) u (by simp [hu])
  simp [takeAllH]
  refine Lg.split 6 vs.length (vs ++ [v]) (oss (qs ++ [q])) rfl ?_
  have s1 : (vs ++ [v]).take vs.length = vs := by simp
  have s2 : (vs ++ [v]).drop vs.length = [v] := by simp
  have s3 : (oss (qs ++ [q])).take vs.length = oss qs := by rw [hvs]; simp [oss]
  have s4 : (oss (qs ++ [q])).drop vs.length = [.os 1 (ints q)] := by rw [hvs]; simp [oss]
  simp [splitH, s1, s2, s3, s4]
  refine Lg.done ?_
  have hget : (vs.map AV.v ++ [AV.v v])[qs.length]? = some (.v v) := by rw [← hvs]; simp
  have hw : (vs.map AV.v ++ [AV.v v]).take qs.length = rawL vs := by rw [← hvs]; simp [rawL]
  have clone := hclone vs (by omega) hone
  have hvl := hvs
  have htk : (rawL vs).take vs.length = rawL vs := List.take_of_length_le (by simp)
  have fin : ∀ E : ES, get E 0 = .lp 0 0 0 0 → get E 90 = .lp 0 0 0 0 → get E 91 = deedV 4 spot way →
      Lg (awp Tryz.prog mdo (.seq (.reg [⟨some 4, .mv, [.kb true], none⟩]) .ret) (athen (awp Tryz.prog mdo c_impl_Book_do_T2 (Fin [RV.t 4] 90 2 [true, false] (.v (.bool true)) [boxO W T cs ds q qs, .bot])) (Fin [RV.t 4] 90 2 [true, false] (.v (.bool true)) [boxO W T cs ds q qs, .bot]))) E
        [some (.box [.v (.int .i64 W), .v (.int .i64 T), .ls 1 1 0 cs.length, .ls 1 2 0 ds.length, .v v, .ls 1 8 0 qs.length]),
          some (.arr 1 (bools cs)), some (.arr 1 (ints ds)), some (.arr 1 (ints ls)), some (.arr 1 (vs.map AV.v ++ [AV.v v])),
          some (.box [.v (.int .i64 4), .v (.int .i64 spot), .v (.int .i64 way)]), some (.pool vs (oss qs)), some (.pool [v] [.os 1 (ints q)]), some (.arr 1 (rawL vs))] := by
    intro E e0 e90 e91
    refine Lg.unpool 7 1 0 4 v (ints q) _ rfl rfl rfl ?_
    simp [unpoolH]
    refine Lg.implode 8 6 vs [] [] (oss qs) (by simp [rawL]) rfl (by omega) (by intro e he; cases he) (by intro e he; cases he) (oneE_oss qs) ?_
    simp [implodeH]
    refine Lg.done ?_
    have hts : (oss qs).take qs.length = oss qs := List.take_of_length_le (by simp [oss])
    have htq : (ints q).take q.length = ints q := take_ints_all q
    simp [get_purgeE, e0, e90, e91, hvs, hts, htq]
  simp [c_impl_Book_do_D, hget]
  (repeat' first | omega | apply And.intro) <;>
  · refine call_on clone ?_
    simp [hw, vwL_raw, hvs, htk]
    first
    | exact ⟨hv1, fin _ rfl rfl rfl⟩
    | exact ⟨by omega, hv1, fin _ rfl rfl rfl⟩
    | exact ⟨by omega, by omega, hv1, fin _ rfl rfl rfl⟩
end Go.Proofs.Dev

namespace Go.Proofs.Dev
set_option linter.unusedSimpArgs false
set_option maxRecDepth 100000

def bkPast (ls : List Int) (ps : List (List Int)) : List (List Int) := (ps ++ [ls]).drop (ps.length + 1 - 20)

abbrev doF (W T : Int) (cs : List Bool) (ds n : List Int) (ps : List (List Int)) := Fin [RV.t 4] 90 2 [true, false] (.v (.bool true)) [boxO W T cs ds n ps, .bot]

theorem bkPast_oss (ls : List Int) (ps : List (List Int)) (d : Nat) (hd : d = ps.length + 1 - 20) : (oss ps).drop d ++ [.os 1 (ints ls)] = oss (bkPast ls ps) := by
  have hd2 : d ≤ ps.length := by omega
  unfold bkPast
  rw [← hd, List.drop_append_of_le_length hd2, oss_append, oss_one]
  simp [oss]

set_option maxHeartbeats 8000000 in
theorem do_T0 (W T : Int) (cs : List Bool) (ds ls n : List Int) (ps : List (List Int)) (kind spot way : Int) (us : List Value) (hp : ps.length ≤ 100) (hn : n.length ≤ 100) (hus : us.length = ps.length) (hok : ∀ u ∈ us, u.oneCell' = true)
    (hclone : ∀ us : List Value, us.length < 2 ^ 40 → (∀ u ∈ us, u.oneCell' = true) → SoundAt Tryz.prog 124 [.sl 1 1 (rawL us)] (.os 1 (rawL us)) [.bot]) (E : ES)
    (e0 : get E 0 = .lp 0 0 0 0) (e6 : get E 6 = .ls 1 6 0 n.length) (e8 : get E 8 = .ls 1 10 0 (ps.length + 1)) (e90 : get E 90 = .lp 0 0 0 0) (e91 : get E 91 = deedV kind spot way) :
    Lg (awp Tryz.prog mdo c_impl_Book_do_T0 (doF W T cs ds n (bkPast ls ps))) E
      [some (.box [.v (.int .i64 W), .v (.int .i64 T), .ls 1 1 0 cs.length, .ls 1 2 0 ds.length, .ls 1 3 0 ls.length, .ls 1 4 0 ps.length]),
        some (.arr 1 (bools cs)), some (.arr 1 (ints ds)), none, some (.arr 1 (us.map AV.v)),
        some (.box [.v (.int .i64 kind), .v (.int .i64 spot), .v (.int .i64 way)]), some (.arr 1 (ints n)), some (.pool us (oss ps)), none, none,
        some (.arr 1 (us.map AV.v ++ [.os 1 (ints ls)]))] := by
  refine Lg.takeAll 10 _ rfl (oneE_append.2 ⟨oneE_vals us, by intro e he; simp at he; subst he; rfl⟩) ?_
  intro us2 hus2 hok2
  have hl2 : us2.length = ps.length + 1 := by rw [hus2]; simp [hus]
  simp [takeAllH]
  refine Lg.done ?_
  obtain ⟨d, hd⟩ : ∃ d : Nat, d = ps.length + 1 - 20 := ⟨_, rfl⟩
  have hm : (if (20 : Int) < ps.length + 1 then (ps.length : Int) + 1 - 20 else 0) = d := by split <;> omega
  have hd2 : d ≤ ps.length := by omega
  have hd3 : d ≤ ps.length + 1 := by omega
  have hone2 : ∀ u ∈ us2.drop d, u.oneCell' = true := by
    intro u hu
    refine hok2 ?_ u (List.mem_of_mem_drop hu)
    have h1 : ∀ us : List Value, (∀ u ∈ us, u.oneCell' = true) → okL (us.map AV.v ++ [.os 1 (ints ls)]) = true := by
      intro us
      induction us with
      | nil => intro _; simp [okL, okE]
      | cons u us ih =>
        intro h
        show (okE (.v u) && okL (us.map AV.v ++ [.os 1 (ints ls)])) = true
        have h2 : okE (.v u) = true := h u (by simp)
        rw [h2, ih fun x hx => h x (by simp [hx])]
        rfl
    exact h1 us hok
  have clone := hclone (us2.drop d) (by simp; omega) hone2
  have hw1 : ((us2.map AV.v).drop d).take (ps.length + 1 - d) = rawL (us2.drop d) := by
    rw [← List.map_drop]
    exact List.take_of_length_le (by simp; omega)
  have hlen : (us2.drop d).length = ps.length + 1 - d := by simp [hl2]
  simp [c_impl_Book_do_T0, get_purgeE, e0, e6, e8, e90, e91, hm, hd3]
  refine ⟨by omega, ?_⟩
  refine call_on clone ?_
  have hle : d + (ps.length + 1 - d) ≤ us2.length := by omega
  simp [hw1, vwL_raw, get_purgeE, e0, e6, e8, e90, e91, hlen, hle]
  refine Lg.split 11 d us2 _ rfl ?_
  have s1 : (us.map AV.v ++ [AV.os 1 (ints ls)]).drop d = (us.drop d).map AV.v ++ [.os 1 (ints ls)] := by
    rw [List.drop_append_of_le_length (by simp; omega), List.map_drop]
  simp only [splitH, s1]
  simp
  refine Lg.implode 12 13 (us2.drop d) [] [] ((us.drop d).map AV.v ++ [.os 1 (ints ls)]) (by simp [rawL]) (by simp) (by omega) (by intro e he; cases he) (by intro e he; cases he) (oneE_append.2 ⟨oneE_vals _, by intro e he; simp at he; subst he; rfl⟩) ?_
  simp [implodeH]
  refine Lg.split 7 d us (oss ps) rfl ?_
  simp [splitH]
  refine Lg.implode 12 14 (us.drop d) [] [.os 1 (ints ls)] ((oss ps).drop d) (by simp) (by simp) (by omega) (by intro e he; cases he) (by intro e he; simp at he; subst he; rfl) (fun e he => oneE_oss ps e (List.mem_of_mem_drop he)) ?_
  simp [implodeH]
  rw [bkPast_oss ls ps d hd]
  refine Lg.done ?_
  have htq : (ints n).take n.length = ints n := take_ints_all n
  have hbl : (bkPast ls ps).length = ps.length + 1 - d := by unfold bkPast; rw [← hd]; simp
  have htb : (oss (bkPast ls ps)).take (ps.length + 1 - d) = oss (bkPast ls ps) := List.take_of_length_le (by simp [oss, hbl])
  simp [get_purgeE, e0, e6, e8, e90, e91, htq, hbl, htb]

set_option maxHeartbeats 8000000 in
theorem do_T1 (W T : Int) (cs : List Bool) (ds ls n : List Int) (ps : List (List Int)) (kind spot way : Int) (hp : ps.length ≤ 100) (hls : ls.length ≤ 100) (hn : n.length ≤ 100)
    (hclone : ∀ us : List Value, us.length < 2 ^ 40 → (∀ u ∈ us, u.oneCell' = true) → SoundAt Tryz.prog 124 [.sl 1 1 (rawL us)] (.os 1 (rawL us)) [.bot]) (E : ES)
    (e0 : get E 0 = .lp 0 0 0 0) (e6 : get E 6 = .ls 1 6 0 n.length) (e90 : get E 90 = .lp 0 0 0 0) (e91 : get E 91 = deedV kind spot way) :
    Lg (awp Tryz.prog mdo c_impl_Book_do_T1 (doF W T cs ds n (bkPast ls ps))) E
      [some (.box [.v (.int .i64 W), .v (.int .i64 T), .ls 1 1 0 cs.length, .ls 1 2 0 ds.length, .ls 1 3 0 ls.length, .ls 1 4 0 ps.length]),
        some (.arr 1 (bools cs)), some (.arr 1 (ints ds)), some (.arr 1 (ints ls)), some (.arr 1 (oss ps)),
        some (.box [.v (.int .i64 kind), .v (.int .i64 spot), .v (.int .i64 way)]), some (.arr 1 (ints n))] := by
  refine Lg.takeAll 4 _ rfl (oneE_oss ps) ?_
  intro us hus hok
  have hl : us.length = ps.length := by rw [hus]; simp [oss]
  have hone : ∀ u ∈ us, u.oneCell' = true := hok (okL_oss ps)
  have clone := hclone us (by omega) hone
  have htk : (us.map AV.v).take ps.length = rawL us := by rw [← hl]; exact List.take_of_length_le (by simp)
  have hokr : okL (rawL us) = true := by
    clear hok hus clone htk hl
    induction us with
    | nil => rfl
    | cons u us ih =>
      have h2 : okE (.v u) = true := hone u (by simp)
      show (okE (.v u) && okL (rawL us)) = true
      rw [h2, ih fun x hx => hone x (by simp [hx])]
      rfl
  simp [takeAllH]
  refine Lg.done ?_
  simp [c_impl_Book_do_T1, get_purgeE, e0, e6, e90, e91]
  (repeat' first | omega | apply And.intro) <;>
  · refine call_on clone ?_
    simp [htk, vwL_raw, get_purgeE, e0, e6, e90, e91, hl]
    exact ⟨by omega, do_T0 W T cs ds ls n ps kind spot way us hp hn hl hone hclone _ (by simp [get_purgeE, e0]) (by simp [get_purgeE, e6]) (by simp) (by simp [get_purgeE, e90]) (by simp [get_purgeE, e91])⟩

set_option maxHeartbeats 8000000 in
theorem s_impl_do_lay (k : cFn Tryz.prog n_impl_Book_do 90 [.t 4] c_impl_Book_do) (W T : Int) (cs : List Bool) (ds ls n : List Int) (ps : List (List Int)) (kind spot way : Int) (b fb : Bool)
    (hp : ps.length ≤ 100) (hkind : kind ≠ 4) (hls : ls.length ≤ 100) (hn : n.length ≤ 100)
    (hneeds : SoundAt Tryz.prog 123 [deedV kind spot way] (.v (.bool true)) [.bot])
    (hby : SoundAt Tryz.prog 125 [.vp 1 [.v (.int .i64 W), .v (.int .i64 T), .sl 1 1 (bools cs), .sl 1 1 (ints ds), .sl 1 1 (ints ls), .sl 1 1 (sls 1 ps)] 0, deedV kind spot way] (.tup [.os 1 (ints n), .v (.bool b)]) [.bot, .bot])
    (hfair : SoundAt Tryz.prog 107 [.agg [.v (.int .i64 W), .v (.int .i64 T), .sl 1 1 (bools cs)], .sl 1 1 (ints ds), .sl 1 1 (ints n)] (.v (.bool fb)) [.bot, .bot, .bot])
    (hclone : ∀ us : List Value, us.length < 2 ^ 40 → (∀ u ∈ us, u.oneCell' = true) → SoundAt Tryz.prog 124 [.sl 1 1 (rawL us)] (.os 1 (rawL us)) [.bot]) :
    SoundAt Tryz.prog n_impl_Book_do [boxO W T cs ds ls ps, deedV kind spot way] (.v (.bool (b && fb))) [if (b && fb) = true then boxO W T cs ds n (bkPast ls ps) else boxO W T cs ds ls ps, .bot] := by
  refine fn_ok (md := mdo) (ms := [true, false]) k (by simp) ?_
  have htl : (ints ls).take ls.length = ints ls := take_ints_all ls
  have hto : (oss ps).take ps.length = oss ps := List.take_of_length_le (by simp [oss])
  cases b with
  | false =>
    simp [c_impl_Book_do]
    refine call_on hneeds ?_
    simp [hkind, c_impl_Book_do_T2]
    refine call_on hby ?_
    simp [htl, hto]
  | true =>
  cases fb with
  | false =>
    simp [c_impl_Book_do]
    refine call_on hneeds ?_
    simp [hkind, c_impl_Book_do_T2]
    refine call_on hby ?_
    simp
    (repeat' first | omega | apply And.intro) <;>
    · refine call_on hfair ?_
      simp [htl, hto]
  | true =>
    simp [c_impl_Book_do]
    refine call_on hneeds ?_
    simp [hkind, c_impl_Book_do_T2]
    refine call_on hby ?_
    simp
    (repeat' first | omega | apply And.intro) <;>
    · refine call_on hfair ?_
      simp
      exact do_T1 W T cs ds ls n ps kind spot way hp hls hn hclone _ rfl rfl rfl rfl
end Go.Proofs.Dev

namespace Go.Proofs.Dev
set_option linter.unusedSimpArgs false
set_option maxRecDepth 100000

/-- What do gives: whether it is done, what is laid, what is past. -/
def doRes (named : Bool) (kind : Int) (ls : List Int) (ps : List (List Int)) (n : List Int) (b : Bool) : Bool × List Int × List (List Int) :=
  if named = false then (false, ls, ps) else
  if kind = 4 then (match ps.getLast? with | some q => (true, q, ps.dropLast) | none => (false, ls, ps)) else
  if b then (true, n, bkPast ls ps) else (false, ls, ps)

theorem s_impl_do (k : cFn Tryz.prog n_impl_Book_do 90 [.t 4] c_impl_Book_do) (W T : Int) (cs : List Bool) (ds ls n : List Int) (ps : List (List Int)) (kind spot way : Int) (named b fb : Bool)
    (hp : ps.length ≤ 100) (hls : ls.length ≤ 100) (hn : n.length ≤ 100)
    (hneeds : SoundAt Tryz.prog 123 [deedV kind spot way] (.v (.bool named)) [.bot])
    (hby : named = true → kind ≠ 4 → SoundAt Tryz.prog 125 [.vp 1 [.v (.int .i64 W), .v (.int .i64 T), .sl 1 1 (bools cs), .sl 1 1 (ints ds), .sl 1 1 (ints ls), .sl 1 1 (sls 1 ps)] 0, deedV kind spot way] (.tup [.os 1 (ints n), .v (.bool b)]) [.bot, .bot])
    (hfair : named = true → kind ≠ 4 → SoundAt Tryz.prog 107 [.agg [.v (.int .i64 W), .v (.int .i64 T), .sl 1 1 (bools cs)], .sl 1 1 (ints ds), .sl 1 1 (ints n)] (.v (.bool fb)) [.bot, .bot, .bot])
    (hclone : ∀ us : List Value, us.length < 2 ^ 40 → (∀ u ∈ us, u.oneCell' = true) → SoundAt Tryz.prog 124 [.sl 1 1 (rawL us)] (.os 1 (rawL us)) [.bot]) :
    SoundAt Tryz.prog n_impl_Book_do [boxO W T cs ds ls ps, deedV kind spot way] (.v (.bool (doRes named kind ls ps n (b && fb)).1))
      [boxO W T cs ds (doRes named kind ls ps n (b && fb)).2.1 (doRes named kind ls ps n (b && fb)).2.2, .bot] := by
  have htl : (ints ls).take ls.length = ints ls := take_ints_all ls
  have hto : (oss ps).take ps.length = oss ps := List.take_of_length_le (by simp [oss])
  cases named with
  | false =>
    refine fn_ok (md := mdo) (ms := [true, false]) k (by simp) ?_
    simp [c_impl_Book_do, doRes]
    refine call_on hneeds ?_
    simp [htl, hto]
  | true =>
  by_cases hk : kind = 4
  · subst hk
    rcases List.eq_nil_or_concat ps with rfl | ⟨qs, q, h⟩
    · refine fn_ok (md := mdo) (ms := [true, false]) k (by simp) ?_
      simp [c_impl_Book_do, doRes]
      refine call_on hneeds ?_
      simp [htl, hto]
    · rw [List.concat_eq_append] at h
      subst h
      have e : doRes true 4 ls (qs ++ [q]) n (b && fb) = (true, q, qs) := by simp [doRes]
      rw [e]
      exact s_impl_do_back k W T cs ds ls q qs spot way (by simp at hp; omega) hneeds hclone
  · have h := s_impl_do_lay k W T cs ds ls n ps kind spot way b fb hp hk hls hn hneeds (hby rfl hk) (hfair rfl hk) hclone
    cases hb : (b && fb) with
    | false =>
      rw [hb] at h
      have e : doRes true kind ls ps n false = (false, ls, ps) := by simp [doRes, hk]
      rw [e]; simpa using h
    | true =>
      rw [hb] at h
      have e : doRes true kind ls ps n true = (true, n, bkPast ls ps) := by simp [doRes, hk]
      rw [e]; simpa using h

theorem s_impl_BookDo (k : cFn Tryz.prog n_impl_BookDo 18 [.c 4 true 6, .t 5] c_impl_BookDo) (W T : Int) (cs : List Bool) (ds ls : List Int) (ps : List (List Int)) (kind spot way : Int) (ok r : Bool) (l2 : List Int) (p2 : List (List Int))
    (hv : SoundAt Tryz.prog 19 [bkA W T cs ds ls ps] (.v (.bool ok)) [.bot])
    (hcopy : ok = true → SoundAt Tryz.prog 64 [bkA W T cs ds ls ps] (bkO W T cs ds ls ps) [.bot])
    (hdo : ok = true → SoundAt Tryz.prog n_impl_Book_do [boxO W T cs ds ls ps, deedV kind spot way] (.v (.bool r)) [boxO W T cs ds l2 p2, .bot]) :
    SoundAt Tryz.prog n_impl_BookDo [bkA W T cs ds ls ps, deedV kind spot way] (.tup [if ok then bkO W T cs ds l2 p2 else bkO 0 0 [] [] [] [], .v (.bool (ok && r))]) [.bot, .bot] := by
  refine fn_ok (md := mdo) (ms := [false, false]) k (by simp) ?_
  cases ok with
  | false =>
    simp [c_impl_BookDo]
    refine call_on hv ?_
    simp
  | true =>
    have hcopy := hcopy rfl
    have hdo := hdo rfl
    have htl : (ints l2).take l2.length = ints l2 := take_ints_all l2
    have hto : (oss p2).take p2.length = oss p2 := List.take_of_length_le (by simp [oss])
    simp [c_impl_BookDo]
    refine call_on hv ?_
    simp
    refine call_on hcopy ?_
    simp
    refine call_on hdo ?_
    simp [htl, hto]
end Go.Proofs.Dev

namespace Go.Proofs.Dev
set_option linter.unusedSimpArgs false
set_option maxRecDepth 100000

/-- What is laid after a deed: laid, lifted, flipped, forced. -/
def byRes (kind : Int) (n0 n1 n2 n3 : List Int) (b0 b1 b2 b3 : Bool) : List Int × Bool :=
  if kind = 0 then (n0, b0) else if kind = 1 then (n1, b1) else if kind = 2 then (n2, b2) else if kind = 3 then (n3, b3) else ([], false)

set_option maxHeartbeats 8000000 in
theorem s_impl_laidBy (k : cFn Tryz.prog n_impl_Book_laidBy 72 [.t 4, .t 5] c_impl_Book_laidBy) (W T : Int) (cs : List Bool) (ds ls n0 n1 n2 n3 : List Int) (ps : List (List Int)) (kind spot way : Int) (b0 b1 b2 e3 : Bool)
    (h0 : SoundAt Tryz.prog 160 [.agg [.v (.int .i64 W), .v (.int .i64 T), .sl 1 1 (bools cs)], .sl 1 1 (ints ls), .v (.int .i64 spot), .v (.int .i64 way)] (.tup [.os 1 (ints n0), .v (.bool b0)]) [.bot, .bot, .bot, .bot])
    (h1 : SoundAt Tryz.prog 161 [.agg [.v (.int .i64 W), .v (.int .i64 T), .sl 1 1 (bools cs)], .sl 1 1 (ints ls), .v (.int .i64 spot)] (.tup [.os 1 (ints n1), .v (.bool b1)]) [.bot, .bot, .bot])
    (h2 : SoundAt Tryz.prog 162 [.agg [.v (.int .i64 W), .v (.int .i64 T), .sl 1 1 (bools cs)], .sl 1 1 (ints ls), .v (.int .i64 spot)] (.tup [.os 1 (ints n2), .v (.bool b2)]) [.bot, .bot, .bot])
    (h3 : SoundAt Tryz.prog 163 [.agg [.v (.int .i64 W), .v (.int .i64 T), .sl 1 1 (bools cs)], .sl 1 1 (ints ds), .sl 1 1 (ints ls)] (.os 1 (ints n3)) [.bot, .bot, .bot])
    (h4 : SoundAt Tryz.prog 164 [.sl 1 1 (ints n3), .sl 1 1 (ints ls)] (.v (.bool e3)) [.bot, .bot]) :
    SoundAt Tryz.prog n_impl_Book_laidBy [.vp 1 [.v (.int .i64 W), .v (.int .i64 T), .sl 1 1 (bools cs), .sl 1 1 (ints ds), .sl 1 1 (ints ls), .sl 1 1 (sls 1 ps)] 0, deedV kind spot way]
      (.tup [.os 1 (ints (byRes kind n0 n1 n2 n3 b0 b1 b2 (!e3)).1), .v (.bool (byRes kind n0 n1 n2 n3 b0 b1 b2 (!e3)).2)]) [.bot, .bot] := by
  have t0 : (ints n0).take n0.length = ints n0 := take_ints_all n0
  have t1 : (ints n1).take n1.length = ints n1 := take_ints_all n1
  have t2 : (ints n2).take n2.length = ints n2 := take_ints_all n2
  have t3 : (ints n3).take n3.length = ints n3 := take_ints_all n3
  refine fn_ok (md := mdo) (ms := [false, false]) k (by simp) ?_
  by_cases hk0 : kind = 0
  · simp [c_impl_Book_laidBy, hk0, byRes]
    (repeat' first | omega | apply And.intro) <;>
    · refine call_on h0 ?_
      simp [t0]
  by_cases hk1 : kind = 1
  · subst hk1
    simp [c_impl_Book_laidBy, byRes]
    (repeat' first | omega | apply And.intro) <;>
    · refine call_on h1 ?_
      simp [t1]
  by_cases hk2 : kind = 2
  · subst hk2
    simp [c_impl_Book_laidBy, byRes]
    (repeat' first | omega | apply And.intro) <;>
    · refine call_on h2 ?_
      simp [t2]
  by_cases hk3 : kind = 3
  · subst hk3
    simp [c_impl_Book_laidBy, byRes]
    (repeat' first | omega | apply And.intro) <;>
    · refine call_on h3 ?_
      simp
      (repeat' first | omega | apply And.intro) <;>
      · refine call_on h4 ?_
        simp [t3]
  · simp [c_impl_Book_laidBy, hk0, hk1, hk2, hk3, byRes]
end Go.Proofs.Dev

namespace Go.Proofs.Dev
set_option linter.unusedSimpArgs false
set_option maxRecDepth 100000

end Go.Proofs.Dev

namespace Go.Proofs.Dev
end Go.Proofs.Dev

namespace Go.Proofs.Dev
set_option linter.unusedSimpArgs false
set_option maxRecDepth 100000

end Go.Proofs.Dev

namespace Go.Proofs.Dev
set_option linter.unusedSimpArgs false
set_option maxRecDepth 100000

def pastB (W T : Int) (cs : List Bool) (ds : List Int) (ps : List (List Int)) : Bool := allB ps.length (fun k => fairB W T cs ds (pti ps k))
def bookB (W T : Int) (cs : List Bool) (ds ls : List Int) (ps : List (List Int)) : Bool := (fairB W T cs ds ls && decide (ps.length ≤ 20)) && pastB W T cs ds ps

theorem s_spec_BookValid (W T : Int) (cs : List Bool) (ds ls : List Int) (ps : List (List Int)) (hc : cs.length < 2 ^ 40) (hd : ds.length < 2 ^ 40) (hl : ls.length < 2 ^ 40) (hb : ps.length < 2 ^ 40) (hp : ∀ p ∈ ps, p.length < 2 ^ 40) :
    SoundAt Tryz.prog n_spec_BookValid [bkA W T cs ds ls ps] (.v (.bool (bookB W T cs ds ls ps))) [.bot] := by
  refine fn_ok (md := md0) (ms := [false]) k_spec_BookValid (by simp) ?_
  simp [c_spec_BookValid]
  refine loop_by (fun m E H => ∃ i : Nat, m = ps.length - i ∧ i ≤ ps.length ∧ allB i (fun k => fairB W T cs ds (pti ps k)) = true ∧ H = [some (.box [.v (.int .i64 W), .v (.int .i64 T), .sl 1 1 (bools cs), .sl 1 1 (ints ds), .sl 1 1 (ints ls), .sl 1 1 (sls 1 ps)])] ∧ E = [(1, .lp 0 0 0 0), (3, .v (.int .i64 i))]) ps.length ⟨0, by simp [allB_zero]⟩ ?_
  rintro J hJ m E H ⟨i, rfl, hi, ha, rfl, rfl⟩
  by_cases h : i < ps.length
  case neg =>
    have : i = ps.length := by omega
    subst this
    simp [c_spec_BookValid_L0]
    refine call_on (s_spec_FairOk W T cs ds ls hc hd hl) ?_
    simp [bookB, pastB, ha]
    cases fairB W T cs ds ls <;> simp
    omega
  have one := s_spec_FairOk W T cs ds (pti ps i) hc hd (hp _ (pti_mem h))
  have hno : fairB W T cs ds (pti ps i) = false → bookB W T cs ds ls ps = false := by
    intro hf
    have : pastB W T cs ds ps = false := allB_false h hf
    simp [bookB, this]
  simp [c_spec_BookValid_L0, h]
  (repeat' first | assumption | omega | apply And.intro) <;>
  · refine call_on one ?_
    cases hf : fairB W T cs ds (pti ps i) with
    | false => simp [hno hf]
    | true =>
      simp
      exact ⟨by omega, _, by omega, hJ _ _ _ ⟨i + 1, rfl, h, by rw [allB_succ, ha, hf]; rfl, rfl, rfl⟩⟩

theorem s_impl_BookValid_1 (W T : Int) (cs : List Bool) (ds ls : List Int) (ps : List (List Int)) (p : List Int) (hc : cs.length < 2 ^ 40) (hd : ds.length < 2 ^ 40) (hp : p.length < 2 ^ 40) :
    SoundAt Tryz.prog n_impl_BookValid_1 [.sl 1 1 (ints p), .vp 1 [.v (.int .i64 W), .v (.int .i64 T), .sl 1 1 (bools cs), .sl 1 1 (ints ds), .sl 1 1 (ints ls), .sl 1 1 (sls 1 ps)] 0] (.v (.bool (!fairB W T cs ds p))) [.bot, .bot] := by
  refine fn_ok (md := md0) (ms := [false, false]) k_impl_BookValid_1 (by simp) ?_
  simp [c_impl_BookValid_1]
  refine call_on (s_impl_FairOk W T cs ds p hc hd hp) ?_
  simp

/-- A book that a closure reads. -/
@[simp] def bkP (W T : Int) (cs : List Bool) (ds ls : List Int) (ps : List (List Int)) : AV := .vp 1 [.v (.int .i64 W), .v (.int .i64 T), .sl 1 1 (bools cs), .sl 1 1 (ints ds), .sl 1 1 (ints ls), .sl 1 1 (sls 1 ps)] 0
def unfairI (W T : Int) (cs : List Bool) (ds : List Int) (ps : List (List Int)) : Int := firstI (fun k => !fairB W T cs ds (pti ps k)) ps.length

theorem s_slices_IndexFunc (W T : Int) (cs : List Bool) (ds ls : List Int) (ps qs : List (List Int)) (hc : cs.length < 2 ^ 40) (hd : ds.length < 2 ^ 40) (hb : ps.length < 2 ^ 40) (hp : ∀ p ∈ ps, p.length < 2 ^ 40) :
    SoundAt Tryz.prog n_slices_IndexFunc_int_int [.sl 1 1 (sls 1 ps), .fn 67 [bkP W T cs ds ls qs]] (.v (.int .i64 (unfairI W T cs ds ps))) [.bot, .bot] := by
  refine fn_ok (md := md0) (ms := [false, false]) k_slices_IndexFunc_int_int (by simp) ?_
  simp [c_slices_IndexFunc_int_int]
  refine loop_by (fun m E H => ∃ i : Nat, m = ps.length - i ∧ i ≤ ps.length ∧ (∀ k : Nat, k < i → (!fairB W T cs ds (pti ps k)) = false) ∧ H = [] ∧ E = [(0, .sl 1 1 (sls 1 ps)), (1, .fn 67 [bkP W T cs ds ls qs]), (7, .v (.int .i64 ps.length)), (8, .v (.int .i64 i))]) ps.length ⟨0, by simp⟩ ?_
  rintro J hJ m E H ⟨i, rfl, hi, ha, rfl, rfl⟩
  by_cases h : i < ps.length
  case neg =>
    have : i = ps.length := by omega
    subst this
    have e : unfairI W T cs ds ps = -1 := firstI_none ha
    simp [c_slices_IndexFunc_int_int_L0, e]
  have one := s_impl_BookValid_1 W T cs ds ls qs (pti ps i) hc hd (hp _ (pti_mem h))
  simp [c_slices_IndexFunc_int_int_L0, h]
  refine ⟨by kernel_rfl, ?_⟩
  refine call_on one ?_
  cases hf : fairB W T cs ds (pti ps i) with
  | false =>
    have e : unfairI W T cs ds ps = i := firstI_hit h (by simp [hf]) ha
    simp [e]
  | true =>
    simp
    refine ⟨by omega, _, by omega, hJ _ _ _ ⟨i + 1, rfl, h, ?_, rfl, rfl⟩⟩
    intro k hk
    rcases Nat.lt_or_ge k i with h1 | h1
    · exact ha k h1
    · have : k = i := by omega
      subst this; simp [hf]

theorem s_slices_ContainsFunc (W T : Int) (cs : List Bool) (ds ls : List Int) (ps qs : List (List Int)) (hc : cs.length < 2 ^ 40) (hd : ds.length < 2 ^ 40) (hb : ps.length < 2 ^ 40) (hp : ∀ p ∈ ps, p.length < 2 ^ 40) :
    SoundAt Tryz.prog n_slices_ContainsFunc_int_int [.sl 1 1 (sls 1 ps), .fn 67 [bkP W T cs ds ls qs]] (.v (.bool (!pastB W T cs ds ps))) [.bot, .bot] := by
  refine fn_ok (md := md0) (ms := [false, false]) k_slices_ContainsFunc_int_int (by simp) ?_
  simp [c_slices_ContainsFunc_int_int]
  refine call_on (s_slices_IndexFunc W T cs ds ls ps qs hc hd hb hp) ?_
  have e : decide (0 ≤ unfairI W T cs ds ps) = !pastB W T cs ds ps := by
    cases hpb : pastB W T cs ds ps with
    | true =>
      have h2 : unfairI W T cs ds ps = -1 := firstI_none fun k hk => by
        have := (allB_iff _ _).1 hpb k hk
        simp [this]
      rw [h2]; rfl
    | false =>
      rcases firstI_cases (fun k => !fairB W T cs ds (pti ps k)) ps.length with h2 | ⟨k, hk, hx, h2⟩
      · exfalso
        have : pastB W T cs ds ps = true := by
          rw [pastB, allB_iff]
          intro k hk
          cases hx : fairB W T cs ds (pti ps k) with
          | true => rfl
          | false =>
            exfalso
            have hm : ∃ x ∈ List.range ps.length, (!fairB W T cs ds (pti ps x)) = true := ⟨k, by simpa using hk, by simp [hx]⟩
            have hs := List.find?_isSome.2 hm
            unfold firstI at h2
            split at h2
            · omega
            · rename_i h9; rw [h9] at hs; cases hs
        rw [this] at hpb; cases hpb
      · have h3 : unfairI W T cs ds ps = k := h2
        rw [h3]; simp
  simp [e]

theorem s_impl_BookValid (W T : Int) (cs : List Bool) (ds ls : List Int) (ps : List (List Int)) (hc : cs.length < 2 ^ 40) (hd : ds.length < 2 ^ 40) (hl : ls.length < 2 ^ 40) (hb : ps.length < 2 ^ 40) (hp : ∀ p ∈ ps, p.length < 2 ^ 40) :
    SoundAt Tryz.prog n_impl_BookValid [bkA W T cs ds ls ps] (.v (.bool (bookB W T cs ds ls ps))) [.bot] := by
  refine fn_ok (md := md0) (ms := [false]) k_impl_BookValid (by simp) ?_
  simp [c_impl_BookValid]
  refine call_on (s_impl_FairOk W T cs ds ls hc hd hl) ?_
  cases hf : fairB W T cs ds ls with
  | false => simp [bookB, hf]
  | true =>
  by_cases h20 : ps.length ≤ 20
  case neg =>
    have h20' : ¬ (ps.length : Int) ≤ 20 := by omega
    simp [bookB, hf, h20, h20']
  have h20' : (ps.length : Int) ≤ 20 := by omega
  simp [h20']
  refine call_on (s_slices_ContainsFunc W T cs ds ls ps ps hc hd hb hp) ?_
  simp [bookB, hf, h20]

end Go.Proofs.Dev

namespace Go.Proofs.Dev
set_option linter.unusedSimpArgs false
set_option maxRecDepth 100000

theorem bookB_fair {W T : Int} {cs : List Bool} {ds ls : List Int} {ps : List (List Int)} (h : bookB W T cs ds ls ps = true) : fairB W T cs ds ls = true := by
  simp only [bookB, Bool.and_eq_true] at h; exact h.1.1

def bsolB (W T : Int) (cs : List Bool) (ds ls : List Int) (ps : List (List Int)) : Bool := bookB W T cs ds ls ps && fullB cs ls

theorem s_impl_BookSolved (W T : Int) (cs : List Bool) (ds ls : List Int) (ps : List (List Int)) (hc : cs.length < 2 ^ 40) (hd : ds.length < 2 ^ 40) (hl : ls.length < 2 ^ 40) (hb : ps.length < 2 ^ 40) (hp : ∀ p ∈ ps, p.length < 2 ^ 40) :
    SoundAt Tryz.prog n_impl_BookSolved [bkA W T cs ds ls ps] (.v (.bool (bsolB W T cs ds ls ps))) [.bot] := by
  refine fn_ok (md := md0) (ms := [false]) k_impl_BookSolved (by simp) ?_
  simp [c_impl_BookSolved]
  refine call_on (s_impl_BookValid W T cs ds ls ps hc hd hl hb hp) ?_
  cases hv : bookB W T cs ds ls ps with
  | false => simp [bsolB, hv]
  | true =>
  simp
  refine call_on (s_impl_Region_full W T cs ls hc (okB_W (fairB_ok (bookB_fair hv))).2.2.1) ?_
  simp [bsolB, hv]

end Go.Proofs.Dev

namespace Go.Proofs.Dev

-- 1 parameters, results [.t 2], 9 slots, modes [false]
@[simp] abbrev n_spec_CellsMany : Nat := 72

def c_spec_CellsMany : ACode := .seq (.reg [.o 1 .box [.t 0], .o 2 .mv [.k 0]]) <| .seq (.seq (.reg [.la 3 3 1, .o 4 (.call 61 []) [.t 3],
 .o 5 (.un .not) [.t 4]]) <| .cond (.t 5) ( .seq (.reg [.o 2 .mv [.k (-1)]]) <| .ret) ( .skip)) <| .seq (.reg [.f 6 2 1, .l 7 6, .o 8 (.call 120 []) [.t 7],
 .m 2 8]) <| .ret

theorem k_spec_CellsMany : cFn Tryz.prog n_spec_CellsMany 9 [.t 2] c_spec_CellsMany := ⟨Tryz.f72, _, Tryz.func72, rfl, by kernel_rfl, by kernel_rfl, by kernel_rfl, by kernel_rfl⟩

-- 2 parameters, results [.t 4], 32 slots, modes [false, false]
@[simp] abbrev n_spec_LaidMany : Nat := 73
def c_spec_LaidMany_L0 : ACode := .seq (.seq (.reg [.m 11 6, .m 12 1, .n 13 12, .o 14 (.bin .lss 0) [.t 11, .t 13]]) <| .cond (.t 14) ( .skip) ( .exit 0)) <|
 .seq (.block 1 ( .seq (.reg [.m 17 1, .m 18 6, .o 19 (.iadr 1) [.t 17, .t 18], .l 20 19, .o 21 (.bin .eql 0) [.t 20, .k 1], .m 22 21, .mg 23 1 22 false,
 .mg 24 6 22 false, .g 25 (.iadr 1) [.t 23, .t 24] 22 false, .lg 26 25 22 false, .g 27 (.bin .eql 0) [.t 26, .k 2] 22 false, .o 28 .pick [.t 22, .kb true,
 .t 27]]) <| .cond (.t 28) ( .reg [.m 29 5, .o 30 (.bin .add 0) [.t 29, .k 1], .m 5 30]) ( .skip))) <| .reg [.m 15 6, .o 16 (.bin .add 0) [.t 15, .k 1],
 .m 6 16]

def c_spec_LaidMany : ACode := .seq (.reg [.o 2 .box [.t 0], .o 4 .mv [.k 0]]) <| .seq (.seq (.reg [.la 7 3 2, .m 8 1, .o 9 (.call 128 []) [.t 7, .t 8],
 .o 10 (.un .not) [.t 9]]) <| .cond (.t 10) ( .seq (.reg [.o 4 .mv [.k (-1)]]) <| .ret) ( .skip)) <| .seq (.reg [.o 5 .mv [.k 0]]) <|
 .seq (.seq (.reg [.o 6 .mv [.k 0]]) <| .block 0 ( .loop [(1, 1)] [1, 5, 6] c_spec_LaidMany_L0)) <| .seq (.reg [.m 31 5, .m 4 31]) <| .ret

theorem k_spec_LaidMany : cFn Tryz.prog n_spec_LaidMany 32 [.t 4] c_spec_LaidMany := ⟨Tryz.f73, _, Tryz.func73, rfl, by kernel_rfl, by kernel_rfl, by kernel_rfl, by kernel_rfl⟩

end Go.Proofs.Dev

namespace Go.Proofs.Dev
set_option linter.unusedSimpArgs false
set_option maxRecDepth 100000

/-- How many dominoes begin in a list. -/
def isDom (x : Int) : Bool := decide (x = 1) || decide (x = 2)
def domN (ls : List Int) : Nat := ls.countP isDom
theorem domN_succ {ls : List Int} {i : Nat} (h : i < ls.length) : domN (ls.take (i + 1)) = domN (ls.take i) + (if isDom (ati ls i) then 1 else 0) := by
  have e : ati ls i = ls[i] := by simp [ati, h]
  rw [e, List.take_succ_eq_append_getElem h, domN, List.countP_append, List.countP_singleton]
  rfl
theorem domN_le (ls : List Int) : domN ls ≤ ls.length := List.countP_le_length

theorem s_spec_CellsMany (W T : Int) (cs : List Bool) (hb : cs.length < 2 ^ 40) :
    SoundAt Tryz.prog n_spec_CellsMany [.agg [.v (.int .i64 W), .v (.int .i64 T), .sl 1 1 (bools cs)]] (.v (.int .i64 (if regB W T cs then manyOf cs else -1))) [.bot] := by
  refine fn_ok (md := md0) (ms := [false]) k_spec_CellsMany (by simp) ?_
  simp [c_spec_CellsMany]
  refine call_on (s_spec_RegionValid W T cs hb) ?_
  cases hr : regB W T cs with
  | false => simp
  | true =>
  simp
  refine call_on (s_spec_l1Count cs hb) ?_
  simp

theorem s_spec_LaidMany (W T : Int) (cs : List Bool) (ls : List Int) (hb : cs.length < 2 ^ 40) (hl : ls.length < 2 ^ 40) :
    SoundAt Tryz.prog n_spec_LaidMany [.agg [.v (.int .i64 W), .v (.int .i64 T), .sl 1 1 (bools cs)], .sl 1 1 (ints ls)] (.v (.int .i64 (if regB W T cs && laysB W T cs ls then (domN ls : Int) else -1))) [.bot, .bot] := by
  refine fn_ok (md := md0) (ms := [false, false]) k_spec_LaidMany (by simp) ?_
  simp [c_spec_LaidMany]
  refine call_on (s_spec_LaidOk W T cs ls hb hl) ?_
  cases hr : (regB W T cs && laysB W T cs ls) with
  | false =>
    have : ¬ (regB W T cs = true ∧ laysB W T cs ls = true) := by simpa using hr
    simp [this]
  | true =>
  have : regB W T cs = true ∧ laysB W T cs ls = true := by simpa using hr
  simp [this]
  refine loop_by (fun m E H => ∃ i : Nat, m = ls.length - i ∧ i ≤ ls.length ∧ H = [] ∧ E = [(1, .sl 1 1 (ints ls)), (5, .v (.int .i64 (domN (ls.take i)))), (6, .v (.int .i64 i))]) ls.length ⟨0, by simp [domN]⟩ ?_
  rintro J hJ m E H ⟨i, rfl, hi, rfl, rfl⟩
  by_cases h : i < ls.length
  case neg =>
    have : i = ls.length := by omega
    subst this
    simp [c_spec_LaidMany_L0]
  have hs := domN_succ h
  have hle : domN (ls.take i) ≤ i := by have := domN_le (ls.take i); simp at this; omega
  have next : ∀ v : Int, v = domN (ls.take (i + 1)) → again J (ls.length - i) [(1, .sl 1 1 (ints ls)), (5, .v (.int .i64 v)), (6, .v (.int .i64 (i + 1)))] [] := by
    rintro v rfl
    exact ⟨_, by omega, hJ _ _ _ ⟨i + 1, rfl, h, rfl, rfl⟩⟩
  by_cases e1 : ati ls i = 1
  · simp [isDom, e1] at hs
    simp [c_spec_LaidMany_L0, h, e1]
    exact ⟨by omega, by omega, next _ (by omega)⟩
  by_cases e2 : ati ls i = 2
  · simp [isDom, e2] at hs
    simp [c_spec_LaidMany_L0, h, e1, e2]
    exact ⟨by omega, by omega, next _ (by omega)⟩
  · simp [isDom, e1, e2] at hs
    simp [c_spec_LaidMany_L0, h, e1, e2]
    exact ⟨by omega, next _ (by omega)⟩

end Go.Proofs.Dev

namespace Go.Proofs.Dev
set_option linter.unusedSimpArgs false
set_option maxRecDepth 100000

end Go.Proofs.Dev
