/- Contracts of the functions of the program over slots and rows, each proved against the program itself; no condition beyond those that each theorem names. -/
import Derived.Test.YtfkmfobbgoflgaaGreatDoorAN
import Derived.Test.YtfkmfobbgoflgaaGreatDoorAI
import Derived.Test.YtfkmfobbgoflgaaGreatDoorAL
import Derived.Test.YtfkmfobbgoflgaaGreatDoorProg
import Derived.Test.YtfkmfobbgoflgaaGreatDoorAK
set_option linter.unusedSimpArgs false
set_option linter.unusedVariables false
set_option maxRecDepth 100000
namespace Go.Proofs.Dev
@[simp] abbrev Ep : Nat := 189
def Hx : ACode := .seq (.reg [.o 2 .mv [.c (.os 1 [])]]) <| .seq (.seq (.reg [.m 3 0, .o 4 (.nilq false) [.t 3]]) <| .cond (.t 4) ( .seq (.reg [.o 2 .mv [.c (.os 1 [])]]) <| .ret) ( .skip)) <| .seq (.reg [.o 5 (.bsl 1) [], .m 6 0, .o 7 (.app 1 24 false) [.t 5, .t 6], .m 2 7]) <| .ret
@[simp] abbrev J5 : Nat := 135
def J6 : ACode := .seq (.reg [.o 2 .mv [.c (.os 1 [])]]) <| .seq (.reg [.m 3 0, .o 4 (.call 189 []) [.t 3], .o 5 (.call 188 []) [.t 4], .m 2 5]) <| .ret
@[simp] abbrev FQ : Nat := 136
abbrev AM : Plan := .al (.o 25 (.call 190 []) [.t 16, .t 20, .t 22, .t 24]) ( .take (.e 26 0 25) <| .take (.e 27 1 25) <| .take (.m 4 26) <| .take (.m 5 27) <| .done)
abbrev BB : Plan := .al (.o 37 (.call 191 []) [.t 30, .t 34, .t 36]) ( .take (.e 38 0 37) <| .take (.e 39 1 37) <| .take (.m 4 38) <| .take (.m 5 39) <| .done)
abbrev BC : Plan := .al (.o 49 (.call 192 []) [.t 42, .t 46, .t 48]) ( .take (.e 50 0 49) <| .take (.e 51 1 49) <| .take (.m 4 50) <| .take (.m 5 51) <| .done)
abbrev BD : Plan := .al (.o 63 (.call 193 []) [.t 54, .t 58, .t 62]) ( .take (.m 7 63) <| .done)
abbrev Ge : Plan := .alt (.la 16 3 6) ( .al (.l 24 23) AM) <| .al (.l 24 23) ( .al (.la 16 3 6) AM)
abbrev Gf : Plan := .alt (.la 16 3 6) ( .al (.l 22 21) AM) <| .al (.l 22 21) ( .al (.la 16 3 6) AM)
abbrev Gg : Plan := .alt (.la 16 3 6) ( .al (.l 20 19) AM) <| .al (.l 20 19) ( .al (.la 16 3 6) AM)
abbrev Gh : Plan := .alt (.l 22 21) ( .al (.l 24 23) AM) <| .al (.l 24 23) ( .al (.l 22 21) AM)
abbrev Gi : Plan := .alt (.l 20 19) ( .al (.l 24 23) AM) <| .al (.l 24 23) ( .al (.l 20 19) AM)
abbrev Gj : Plan := .alt (.l 20 19) ( .al (.l 22 21) AM) <| .al (.l 22 21) ( .al (.l 20 19) AM)
def BH : ACode := .seq (.reg [.o 3 .box [.t 1], .o 4 .mv [.c (.os 1 [])], .o 5 .mv [.kb false]]) <| .seq (.reg [.m 8 0, .o 9 .nilck [.t 8], .f 10 0 9, .la 11 3 10, .o 6 (.alloc rz) [], .s (.store 3) [.t 6, .t 11]]) <| .seq (.seq (.reg [.f 12 0 3, .l 13 12]) <| .block 0 ( .seq (.reg [.o 15 (.bin .eql 0) [.t 13, .k 0], .m 14 15]) <| .cond (.t 14) ( .seq (.draw ( .take (.m 17 0) <| .take (.o 18 .nilck [.t 17]) <| .take (.f 19 4 18) <| .take (.f 21 1 3) <| .take (.f 23 2 3) <| .alt (.la 16 3 6) ( .alt (.l 20 19) Gh <| .alt (.l 22 21) Gi <| .al (.l 24 23) Gj) <| .alt (.l 20 19) ( .alt (.la 16 3 6) Gh <| .alt (.l 22 21) Ge <| .al (.l 24 23) Gf) <| .alt (.l 22 21) ( .alt (.la 16 3 6) Gi <| .alt (.l 20 19) Ge <| .al (.l 24 23) Gg) <| .al (.l 24 23) ( .alt (.la 16 3 6) Gj <| .alt (.l 20 19) Gf <| .al (.l 22 21) Gg))) <| .ret) ( .seq (.reg [.o 29 (.bin .eql 0) [.t 13, .k 1], .m 28 29]) <| .cond (.t 28) ( .seq (.draw ( .take (.m 31 0) <| .take (.o 32 .nilck [.t 31]) <| .take (.f 33 4 32) <| .take (.f 35 1 3) <| .alt (.la 30 3 6) ( .alt (.l 34 33) ( .al (.l 36 35) BB) <| .al (.l 36 35) ( .al (.l 34 33) BB)) <| .alt (.l 34 33) ( .alt (.la 30 3 6) ( .al (.l 36 35) BB) <| .al (.l 36 35) ( .al (.la 30 3 6) BB)) <| .al (.l 36 35) ( .alt (.la 30 3 6) ( .al (.l 34 33) BB) <| .al (.l 34 33) ( .al (.la 30 3 6) BB)))) <| .ret) ( .seq (.reg [.o 41 (.bin .eql 0) [.t 13, .k 2], .m 40 41]) <| .cond (.t 40) ( .seq (.draw ( .take (.m 43 0) <| .take (.o 44 .nilck [.t 43]) <| .take (.f 45 4 44) <| .take (.f 47 1 3) <| .alt (.la 42 3 6) ( .alt (.l 46 45) ( .al (.l 48 47) BC) <| .al (.l 48 47) ( .al (.l 46 45) BC)) <| .alt (.l 46 45) ( .alt (.la 42 3 6) ( .al (.l 48 47) BC) <| .al (.l 48 47) ( .al (.la 42 3 6) BC)) <| .al (.l 48 47) ( .alt (.la 42 3 6) ( .al (.l 46 45) BC) <| .al (.l 46 45) ( .al (.la 42 3 6) BC)))) <| .ret) ( .seq (.reg [.o 53 (.bin .eql 0) [.t 13, .k 3], .m 52 53]) <| .cond (.t 52) ( .seq (.draw ( .take (.m 55 0) <| .take (.o 56 .nilck [.t 55]) <| .take (.f 57 3 56) <| .take (.m 59 0) <| .take (.o 60 .nilck [.t 59]) <| .take (.f 61 4 60) <| .alt (.la 54 3 6) ( .alt (.l 58 57) ( .al (.l 62 61) BD) <| .al (.l 62 61) ( .al (.l 58 57) BD)) <| .alt (.l 58 57) ( .alt (.la 54 3 6) ( .al (.l 62 61) BD) <| .al (.l 62 61) ( .al (.la 54 3 6) BD)) <| .al (.l 62 61) ( .alt (.la 54 3 6) ( .al (.l 58 57) BD) <| .al (.l 58 57) ( .al (.la 54 3 6) BD)))) <| .seq (.reg [.m 64 7, .m 65 7, .m 66 0, .o 67 .nilck [.t 66], .f 68 4 67, .l 69 68, .o 70 (.call 194 []) [.t 65, .t 69], .o 71 (.un .not) [.t 70], .m 4 64, .m 5 71]) <| .ret) ( .skip)))))) <| .seq (.reg [.o 4 .mv [.c (.os 1 [])], .o 5 .mv [.kb false]]) <| .ret
@[simp] abbrev B3 : Nat := 65
def GE : ACode := .seq (.reg [.m 76 0, .m 77 0, .m 78 6, .m 79 8, .m 80 8, .n 81 80, .o 82 (.bin .sub 0) [.t 81, .k 20], .o 83 (.mnx false) [.k 0, .t 82], .o 84 (.slice 1 false true false false) [.t 79, .t 83], .o 85 (.call 135 []) [.t 84], .o 86 .nilck [.t 76], .f 87 4 86, .s (.store 1) [.t 87, .t 78], .o 88 .nilck [.t 77], .f 89 5 88, .s (.store 1) [.t 89, .t 85]]) <| .lg <| .seq (.reg [.o 4 .mv [.kb true]]) <| .ret
abbrev Cn : Plan := .al (.o 75 (.app 1 24 false) [.t 69, .t 74]) ( .take (.m 8 75) <| .done)
abbrev Gz : Plan := .alt (.o 69 (.call 135 []) [.t 68]) ( .al (.o 74 (.bsl 1) [.t 73]) Cn) <| .al (.o 74 (.bsl 1) [.t 73]) ( .al (.o 69 (.call 135 []) [.t 68]) Cn)
def GF : ACode := .seq (.draw ( .take (.m 65 0) <| .take (.o 66 .nilck [.t 65]) <| .take (.f 67 5 66) <| .take (.m 70 0) <| .take (.o 71 .nilck [.t 70]) <| .take (.f 72 4 71) <| .alt (.l 68 67) ( .alt (.o 69 (.call 135 []) [.t 68]) ( .al (.l 73 72) ( .al (.o 74 (.bsl 1) [.t 73]) Cn)) <| .al (.l 73 72) Gz) <| .al (.l 73 72) ( .alt (.l 68 67) Gz <| .al (.o 74 (.bsl 1) [.t 73]) ( .al (.l 68 67) ( .al (.o 69 (.call 135 []) [.t 68]) Cn))))) <| .lg GE
abbrev G0 : Plan := .al (.g 62 (.call 137 []) [.t 56, .t 60, .t 61] 52 false) ( .take (.g 63 (.un .not) [.t 62] 52 false) <| .take (.o 64 .pick [.t 52, .kb true, .t 63]) <| .done)
def Cw : ACode := .seq (.reg [.m 45 0, .la 46 3 3, .o 47 (.call 136 []) [.t 45, .t 46], .m 44 47, .e 48 0 44, .e 49 1 44, .m 6 48, .m 7 49]) <| .seq (.seq (.draw ( .take (.m 50 7) <| .take (.o 51 (.un .not) [.t 50]) <| .take (.m 52 51) <| .take (.mg 53 0 52 false) <| .take (.g 54 .nilck [.t 53] 52 false) <| .take (.fg 55 0 54 52 false) <| .take (.mg 57 0 52 false) <| .take (.g 58 .nilck [.t 57] 52 false) <| .take (.fg 59 3 58 52 false) <| .take (.mg 61 6 52 false) <| .alt (.g 56 (.load true 3) [.t 55] 52 false) ( .al (.lg 60 59 52 false) G0) <| .al (.lg 60 59 52 false) ( .al (.g 56 (.load true 3) [.t 55] 52 false) G0))) <| .cond (.t 64) ( .seq (.reg [.o 4 .mv [.kb false]]) <| .ret) ( .skip)) <| .lg GF
abbrev BQ : Plan := .take (.o 40 .nilck [.t 22]) <| .take (.f 41 4 40) <| .al (.s (.store 1) [.t 41, .t 31]) ( .take (.o 42 .nilck [.t 23]) <| .take (.f 43 5 42) <| .al (.s (.store 1) [.t 43, .t 39]) ( .done))
def K9 : ACode := .draw ( .take (.m 22 0) <| .take (.m 23 0) <| .take (.m 24 0) <| .take (.o 25 .nilck [.t 24]) <| .take (.f 26 5 25) <| .take (.m 28 5) <| .take (.o 29 (.bin .sub 0) [.t 28, .k 1]) <| .take (.m 32 0) <| .take (.o 33 .nilck [.t 32]) <| .take (.f 34 5 33) <| .take (.m 36 5) <| .take (.o 37 (.bin .sub 0) [.t 36, .k 1]) <| .alt (.l 27 26) ( .take (.o 30 (.iadr 1) [.t 27, .t 29]) <| .alt (.l 31 30) ( .al (.l 35 34) ( .take (.o 38 (.slice 1 false false true false) [.t 35, .t 37]) <| .al (.o 39 (.call 135 []) [.t 38]) BQ)) <| .al (.l 35 34) ( .take (.o 38 (.slice 1 false false true false) [.t 35, .t 37]) <| .alt (.l 31 30) ( .al (.o 39 (.call 135 []) [.t 38]) BQ) <| .al (.o 39 (.call 135 []) [.t 38]) ( .al (.l 31 30) BQ))) <| .al (.l 35 34) ( .take (.o 38 (.slice 1 false false true false) [.t 35, .t 37]) <| .alt (.l 27 26) ( .take (.o 30 (.iadr 1) [.t 27, .t 29]) <| .alt (.l 31 30) ( .al (.o 39 (.call 135 []) [.t 38]) BQ) <| .al (.o 39 (.call 135 []) [.t 38]) ( .al (.l 31 30) BQ)) <| .al (.o 39 (.call 135 []) [.t 38]) ( .al (.l 27 26) ( .take (.o 30 (.iadr 1) [.t 27, .t 29]) <| .al (.l 31 30) BQ))))
def BF : ACode := .seq (.reg [.o 3 .box [.t 1], .o 4 .mv [.kb false]]) <| .seq (.seq (.reg [.la 9 3 3, .o 10 (.call 62 []) [.t 9], .o 11 (.un .not) [.t 10]]) <| .cond (.t 11) ( .seq (.reg [.o 4 .mv [.kb false]]) <| .ret) ( .skip)) <| .seq (.seq (.reg [.m 12 0, .o 13 .nilck [.t 12], .f 14 5 13, .l 15 14, .n 16 15, .m 5 16]) <| .seq (.reg [.f 17 0 3, .l 18 17, .o 19 (.bin .eql 0) [.t 18, .k 4]]) <| .cond (.t 19) ( .seq (.seq (.reg [.m 20 5, .o 21 (.bin .eql 0) [.t 20, .k 0]]) <| .cond (.t 21) ( .seq (.reg [.o 4 .mv [.kb false]]) <| .ret) ( .skip)) <| .lg <| .seq (K9) <| .lg <| .seq (.reg [.o 4 .mv [.kb true]]) <| .ret) ( .skip)) <| Cw
@[simp] def M4 (kind spot way : Int) : AV := .agg [.v (.int .i64 kind), .v (.int .i64 spot), .v (.int .i64 way)]
attribute [simp] Z2
def Jl (us : List Value) : List AV := us.map AV.v
@[simp] theorem gt (us : List Value) : (Jl us).length = us.length := by simp [Jl]
theorem R7 (ps : List (List Int)) : Wa (oss ps) := by
 intro e he
 obtain ⟨p, _, rfl⟩ := List.mem_map.1 he
 rfl
theorem TH (c : Nat) (us : List Value) : vwL c (Jl us) = Jl us := by
 induction us with
 | nil => rfl
 | cons u us ih => show vw c (.v u) :: vwL c (Jl us) = .v u :: Jl us; rw [ih]; rfl
@[simp] def mdo (f : Nat) : List Bool := if f = 65 then [true, false] else []
@[simp] def NZ (W T : Int) (cs : List Bool) (ds ls : List Int) (ps : List (List Int)) : AV := .op [.v (.int .i64 W), .v (.int .i64 T), .os 1 (AC cs), .os 1 (AB ds), .os 1 (AB ls), .os 1 (oss ps)]
set_option maxHeartbeats 4000000 in
theorem UR (k : cFn Tryz.prog B3 90 [.t 4] BF) (W T : Int) (cs : List Bool) (ds ls q : List Int) (qs : List (List Int)) (spot way : Int)
  (hq : qs.length ≤ 100)
  (hneeds : SoundAt Tryz.prog 62 [M4 4 spot way] (.v (.bool true)) [.bot])
  (hclone : ∀ us : List Value, us.length < 2 ^ 40 → (∀ u ∈ us, u.oneCell' = true) → SoundAt Tryz.prog 135 [.sl 1 1 (Jl us)] (.os 1 (Jl us)) [.bot]) :
  SoundAt Tryz.prog B3 [NZ W T cs ds ls (qs ++ [q]), M4 4 spot way] (.v (.bool true)) [NZ W T cs ds q qs, .bot] := by
 refine AE (md := mdo) (ms := [true, false]) k (by simp) ?_
 simp [BF]
 refine AA hneeds ?_
 have e1 : ¬ ((qs.length : Int) + 1 = 0) := by omega
 simp [e1]
 refine Lg.takeAll 4 _ rfl (R7 _) ?_
 intro us hus hok
 obtain ⟨vs, v, rfl⟩ : ∃ vs v, us = vs ++ [v] := by
  rcases List.eq_nil_or_concat us with rfl | ⟨vs, v, h⟩
  ·simp [oss] at hus
  ·exact ⟨vs, v, by rw [h, List.concat_eq_append]⟩
 have hvs : vs.length = qs.length := by simp [oss] at hus; exact hus
 have hv1 : v.oneCell' = true := hok (V8 _) v (by simp)
 have hone : ∀ u ∈ vs, u.oneCell' = true := fun u hu => hok (V8 _) u (by simp [hu])
 simp [Oa]
 refine Lg.split 6 vs.length (vs ++ [v]) (oss (qs ++ [q])) rfl ?_
 have s1 : (vs ++ [v]).take vs.length = vs := by simp
 have s2 : (vs ++ [v]).drop vs.length = [v] := by simp
 have s3 : (oss (qs ++ [q])).take vs.length = oss qs := by rw [hvs]; simp [oss]
 have s4 : (oss (qs ++ [q])).drop vs.length = [.os 1 (AB q)] := by rw [hvs]; simp [oss]
 simp [Wr, s1, s2, s3, s4]
 refine Lg.done ?_
 have hget : (vs.map AV.v ++ [AV.v v])[qs.length]? = some (.v v) := by rw [← hvs]; simp
 have hw : (vs.map AV.v ++ [AV.v v]).take qs.length = Jl vs := by rw [← hvs]; simp [Jl]
 have clone := hclone vs (by omega) hone
 have hvl := hvs
 have htk : (Jl vs).take vs.length = Jl vs := List.take_of_length_le (by simp)
 have fin : ∀ E : ES, get E 0 = .lp 0 0 0 0 → get E 90 = .lp 0 0 0 0 → get E 91 = M4 4 spot way →
   Lg (awp Tryz.prog mdo (.seq (.reg [⟨some 4, .mv, [.kb true], none⟩]) .ret) (Ws (awp Tryz.prog mdo Cw (Fin [RV.t 4] 90 2 [true, false] (.v (.bool true)) [NZ W T cs ds q qs, .bot])) (Fin [RV.t 4] 90 2 [true, false] (.v (.bool true)) [NZ W T cs ds q qs, .bot]))) E
    [some (.box [.v (.int .i64 W), .v (.int .i64 T), .ls 1 1 0 cs.length, .ls 1 2 0 ds.length, .v v, .ls 1 8 0 qs.length]),
     some (.arr 1 (AC cs)), some (.arr 1 (AB ds)), some (.arr 1 (AB ls)), some (.arr 1 (vs.map AV.v ++ [AV.v v])),
     some (.box [.v (.int .i64 4), .v (.int .i64 spot), .v (.int .i64 way)]), some (.pool vs (oss qs)), some (.pool [v] [.os 1 (AB q)]), some (.arr 1 (Jl vs))] := by
  intro E e0 e90 e91
  refine Lg.unpool 7 1 0 4 v (AB q) _ rfl rfl rfl ?_
  simp [QN]
  refine Lg.implode 8 6 vs [] [] (oss qs) (by simp [Jl]) rfl (by omega) (by intro e he; cases he) (by intro e he; cases he) (R7 qs) ?_
  simp [Ob]
  refine Lg.done ?_
  have hts : (oss qs).take qs.length = oss qs := List.take_of_length_le (by simp [oss])
  have htq : (AB q).take q.length = AB q := AD q
  simp [B4, e0, e90, e91, hvs, hts, htq]
 simp [K9, hget]
 (repeat' first | omega | apply And.intro) <;>
 ·refine AA clone ?_
  simp [hw, TH, hvs, htk]
  first
  | exact ⟨hv1, fin _ rfl rfl rfl⟩
  | exact ⟨by omega, hv1, fin _ rfl rfl rfl⟩
  | exact ⟨by omega, by omega, hv1, fin _ rfl rfl rfl⟩
def FR (ls : List Int) (ps : List (List Int)) : List (List Int) := (ps ++ [ls]).drop (ps.length + 1 - 20)
abbrev doF (W T : Int) (cs : List Bool) (ds n : List Int) (ps : List (List Int)) := Fin [RV.t 4] 90 2 [true, false] (.v (.bool true)) [NZ W T cs ds n ps, .bot]
theorem Zl (ls : List Int) (ps : List (List Int)) (d : Nat) (hd : d = ps.length + 1 - 20) : (oss ps).drop d ++ [.os 1 (AB ls)] = oss (FR ls ps) := by
 have hd2 : d ≤ ps.length := by omega
 unfold FR
 rw [← hd, List.drop_append_of_le_length hd2, J4, Qd]
 simp [oss]
set_option maxHeartbeats 8000000 in
theorem mI (W T : Int) (cs : List Bool) (ds ls n : List Int) (ps : List (List Int)) (kind spot way : Int) (us : List Value) (hp : ps.length ≤ 100) (hn : n.length ≤ 100) (hus : us.length = ps.length) (hok : ∀ u ∈ us, u.oneCell' = true)
  (hclone : ∀ us : List Value, us.length < 2 ^ 40 → (∀ u ∈ us, u.oneCell' = true) → SoundAt Tryz.prog 135 [.sl 1 1 (Jl us)] (.os 1 (Jl us)) [.bot]) (E : ES)
  (e0 : get E 0 = .lp 0 0 0 0) (e6 : get E 6 = .ls 1 6 0 n.length) (e8 : get E 8 = .ls 1 10 0 (ps.length + 1)) (e90 : get E 90 = .lp 0 0 0 0) (e91 : get E 91 = M4 kind spot way) :
  Lg (awp Tryz.prog mdo GE (doF W T cs ds n (FR ls ps))) E
   [some (.box [.v (.int .i64 W), .v (.int .i64 T), .ls 1 1 0 cs.length, .ls 1 2 0 ds.length, .ls 1 3 0 ls.length, .ls 1 4 0 ps.length]),
    some (.arr 1 (AC cs)), some (.arr 1 (AB ds)), none, some (.arr 1 (us.map AV.v)),
    some (.box [.v (.int .i64 kind), .v (.int .i64 spot), .v (.int .i64 way)]), some (.arr 1 (AB n)), some (.pool us (oss ps)), none, none,
    some (.arr 1 (us.map AV.v ++ [.os 1 (AB ls)]))] := by
 refine Lg.takeAll 10 _ rfl (oneE_append.2 ⟨SM us, by intro e he; simp at he; subst he; rfl⟩) ?_
 intro us2 hus2 hok2
 have hl2 : us2.length = ps.length + 1 := by rw [hus2]; simp [hus]
 simp [Oa]
 refine Lg.done ?_
 obtain ⟨d, hd⟩ : ∃ d : Nat, d = ps.length + 1 - 20 := ⟨_, rfl⟩
 have hm : (if (20 : Int) < ps.length + 1 then (ps.length : Int) + 1 - 20 else 0) = d := by split <;> omega
 have hd2 : d ≤ ps.length := by omega
 have hd3 : d ≤ ps.length + 1 := by omega
 have hone2 : ∀ u ∈ us2.drop d, u.oneCell' = true := by
  intro u hu
  refine hok2 ?_ u (List.mem_of_mem_drop hu)
  have h1 : ∀ us : List Value, (∀ u ∈ us, u.oneCell' = true) → okL (us.map AV.v ++ [.os 1 (AB ls)]) = true := by
   intro us
   induction us with
   | nil => intro _; simp [okL, okE]
   | cons u us ih =>
     intro h
     show (okE (.v u) && okL (us.map AV.v ++ [.os 1 (AB ls)])) = true
     have h2 : okE (.v u) = true := h u (by simp)
     rw [h2, ih fun x hx => h x (by simp [hx])]
     rfl
  exact h1 us hok
 have clone := hclone (us2.drop d) (by simp; omega) hone2
 have hw1 : ((us2.map AV.v).drop d).take (ps.length + 1 - d) = Jl (us2.drop d) := by
  rw [← List.map_drop]
  exact List.take_of_length_le (by simp; omega)
 have hlen : (us2.drop d).length = ps.length + 1 - d := by simp [hl2]
 simp [GE, B4, e0, e6, e8, e90, e91, hm, hd3]
 refine ⟨by omega, ?_⟩
 refine AA clone ?_
 have hle : d + (ps.length + 1 - d) ≤ us2.length := by omega
 simp [hw1, TH, B4, e0, e6, e8, e90, e91, hlen, hle]
 refine Lg.split 11 d us2 _ rfl ?_
 have s1 : (us.map AV.v ++ [AV.os 1 (AB ls)]).drop d = (us.drop d).map AV.v ++ [.os 1 (AB ls)] := by
  rw [List.drop_append_of_le_length (by simp; omega), List.map_drop]
 simp only [Wr, s1]
 simp
 refine Lg.implode 12 13 (us2.drop d) [] [] ((us.drop d).map AV.v ++ [.os 1 (AB ls)]) (by simp [Jl]) (by simp) (by omega) (by intro e he; cases he) (by intro e he; cases he) (oneE_append.2 ⟨SM _, by intro e he; simp at he; subst he; rfl⟩) ?_
 simp [Ob]
 refine Lg.split 7 d us (oss ps) rfl ?_
 simp [Wr]
 refine Lg.implode 12 14 (us.drop d) [] [.os 1 (AB ls)] ((oss ps).drop d) (by simp) (by simp) (by omega) (by intro e he; cases he) (by intro e he; simp at he; subst he; rfl) (fun e he => R7 ps e (List.mem_of_mem_drop he)) ?_
 simp [Ob]
 rw [Zl ls ps d hd]
 refine Lg.done ?_
 have htq : (AB n).take n.length = AB n := AD n
 have hbl : (FR ls ps).length = ps.length + 1 - d := by unfold FR; rw [← hd]; simp
 have htb : (oss (FR ls ps)).take (ps.length + 1 - d) = oss (FR ls ps) := List.take_of_length_le (by simp [oss, hbl])
 simp [B4, e0, e6, e8, e90, e91, htq, hbl, htb]
set_option maxHeartbeats 8000000 in
theorem mJ (W T : Int) (cs : List Bool) (ds ls n : List Int) (ps : List (List Int)) (kind spot way : Int) (hp : ps.length ≤ 100) (hls : ls.length ≤ 100) (hn : n.length ≤ 100)
  (hclone : ∀ us : List Value, us.length < 2 ^ 40 → (∀ u ∈ us, u.oneCell' = true) → SoundAt Tryz.prog 135 [.sl 1 1 (Jl us)] (.os 1 (Jl us)) [.bot]) (E : ES)
  (e0 : get E 0 = .lp 0 0 0 0) (e6 : get E 6 = .ls 1 6 0 n.length) (e90 : get E 90 = .lp 0 0 0 0) (e91 : get E 91 = M4 kind spot way) :
  Lg (awp Tryz.prog mdo GF (doF W T cs ds n (FR ls ps))) E
   [some (.box [.v (.int .i64 W), .v (.int .i64 T), .ls 1 1 0 cs.length, .ls 1 2 0 ds.length, .ls 1 3 0 ls.length, .ls 1 4 0 ps.length]),
    some (.arr 1 (AC cs)), some (.arr 1 (AB ds)), some (.arr 1 (AB ls)), some (.arr 1 (oss ps)),
    some (.box [.v (.int .i64 kind), .v (.int .i64 spot), .v (.int .i64 way)]), some (.arr 1 (AB n))] := by
 refine Lg.takeAll 4 _ rfl (R7 ps) ?_
 intro us hus hok
 have hl : us.length = ps.length := by rw [hus]; simp [oss]
 have hone : ∀ u ∈ us, u.oneCell' = true := hok (V8 ps)
 have clone := hclone us (by omega) hone
 have htk : (us.map AV.v).take ps.length = Jl us := by rw [← hl]; exact List.take_of_length_le (by simp)
 have hokr : okL (Jl us) = true := by
  clear hok hus clone htk hl
  induction us with
  | nil => rfl
  | cons u us ih =>
    have h2 : okE (.v u) = true := hone u (by simp)
    show (okE (.v u) && okL (Jl us)) = true
    rw [h2, ih fun x hx => hone x (by simp [hx])]
    rfl
 simp [Oa]
 refine Lg.done ?_
 simp [GF, B4, e0, e6, e90, e91]
 (repeat' first | omega | apply And.intro) <;>
 ·refine AA clone ?_
  simp [htk, TH, B4, e0, e6, e90, e91, hl]
  exact ⟨by omega, mI W T cs ds ls n ps kind spot way us hp hn hl hone hclone _ (by simp [B4, e0]) (by simp [B4, e6]) (by simp) (by simp [B4, e90]) (by simp [B4, e91])⟩
set_option maxHeartbeats 8000000 in
theorem WB (k : cFn Tryz.prog B3 90 [.t 4] BF) (W T : Int) (cs : List Bool) (ds ls n : List Int) (ps : List (List Int)) (kind spot way : Int) (b fb : Bool)
  (hp : ps.length ≤ 100) (hkind : kind ≠ 4) (hls : ls.length ≤ 100) (hn : n.length ≤ 100)
  (hneeds : SoundAt Tryz.prog 62 [M4 kind spot way] (.v (.bool true)) [.bot])
  (hby : SoundAt Tryz.prog 136 [.vp 1 [.v (.int .i64 W), .v (.int .i64 T), .sl 1 1 (AC cs), .sl 1 1 (AB ds), .sl 1 1 (AB ls), .sl 1 1 (sls 1 ps)] 0, M4 kind spot way] (.tup [.os 1 (AB n), .v (.bool b)]) [.bot, .bot])
  (hfair : SoundAt Tryz.prog 137 [.agg [.v (.int .i64 W), .v (.int .i64 T), .sl 1 1 (AC cs)], .sl 1 1 (AB ds), .sl 1 1 (AB n)] (.v (.bool fb)) [.bot, .bot, .bot])
  (hclone : ∀ us : List Value, us.length < 2 ^ 40 → (∀ u ∈ us, u.oneCell' = true) → SoundAt Tryz.prog 135 [.sl 1 1 (Jl us)] (.os 1 (Jl us)) [.bot]) :
  SoundAt Tryz.prog B3 [NZ W T cs ds ls ps, M4 kind spot way] (.v (.bool (b && fb))) [if (b && fb) = true then NZ W T cs ds n (FR ls ps) else NZ W T cs ds ls ps, .bot] := by
 refine AE (md := mdo) (ms := [true, false]) k (by simp) ?_
 have htl : (AB ls).take ls.length = AB ls := AD ls
 have hto : (oss ps).take ps.length = oss ps := List.take_of_length_le (by simp [oss])
 cases b with
 | false =>
   simp [BF]
   refine AA hneeds ?_
   simp [hkind, Cw]
   refine AA hby ?_
   simp [htl, hto]
 | true =>
 cases fb with
 | false =>
   simp [BF]
   refine AA hneeds ?_
   simp [hkind, Cw]
   refine AA hby ?_
   simp
   (repeat' first | omega | apply And.intro) <;>
   ·refine AA hfair ?_
    simp [htl, hto]
 | true =>
   simp [BF]
   refine AA hneeds ?_
   simp [hkind, Cw]
   refine AA hby ?_
   simp
   (repeat' first | omega | apply And.intro) <;>
   ·refine AA hfair ?_
    simp
    exact mJ W T cs ds ls n ps kind spot way hp hls hn hclone _ rfl rfl rfl rfl
def J7 (named : Bool) (kind : Int) (ls : List Int) (ps : List (List Int)) (n : List Int) (b : Bool) : Bool × List Int × List (List Int) :=
 if named = false then (false, ls, ps) else
 if kind = 4 then (match ps.getLast? with | some q => (true, q, ps.dropLast) | none => (false, ls, ps)) else
 if b then (true, n, FR ls ps) else (false, ls, ps)
theorem bR (k : cFn Tryz.prog B3 90 [.t 4] BF) (W T : Int) (cs : List Bool) (ds ls n : List Int) (ps : List (List Int)) (kind spot way : Int) (named b fb : Bool)
  (hp : ps.length ≤ 100) (hls : ls.length ≤ 100) (hn : n.length ≤ 100)
  (hneeds : SoundAt Tryz.prog 62 [M4 kind spot way] (.v (.bool named)) [.bot])
  (hby : named = true → kind ≠ 4 → SoundAt Tryz.prog 136 [.vp 1 [.v (.int .i64 W), .v (.int .i64 T), .sl 1 1 (AC cs), .sl 1 1 (AB ds), .sl 1 1 (AB ls), .sl 1 1 (sls 1 ps)] 0, M4 kind spot way] (.tup [.os 1 (AB n), .v (.bool b)]) [.bot, .bot])
  (hfair : named = true → kind ≠ 4 → SoundAt Tryz.prog 137 [.agg [.v (.int .i64 W), .v (.int .i64 T), .sl 1 1 (AC cs)], .sl 1 1 (AB ds), .sl 1 1 (AB n)] (.v (.bool fb)) [.bot, .bot, .bot])
  (hclone : ∀ us : List Value, us.length < 2 ^ 40 → (∀ u ∈ us, u.oneCell' = true) → SoundAt Tryz.prog 135 [.sl 1 1 (Jl us)] (.os 1 (Jl us)) [.bot]) :
  SoundAt Tryz.prog B3 [NZ W T cs ds ls ps, M4 kind spot way] (.v (.bool (J7 named kind ls ps n (b && fb)).1))
   [NZ W T cs ds (J7 named kind ls ps n (b && fb)).2.1 (J7 named kind ls ps n (b && fb)).2.2, .bot] := by
 have htl : (AB ls).take ls.length = AB ls := AD ls
 have hto : (oss ps).take ps.length = oss ps := List.take_of_length_le (by simp [oss])
 cases named with
 | false =>
   refine AE (md := mdo) (ms := [true, false]) k (by simp) ?_
   simp [BF, J7]
   refine AA hneeds ?_
   simp [htl, hto]
 | true =>
 by_cases hk : kind = 4
 ·subst hk
  rcases List.eq_nil_or_concat ps with rfl | ⟨qs, q, h⟩
  ·refine AE (md := mdo) (ms := [true, false]) k (by simp) ?_
   simp [BF, J7]
   refine AA hneeds ?_
   simp [htl, hto]
  ·rw [List.concat_eq_append] at h
   subst h
   have e : J7 true 4 ls (qs ++ [q]) n (b && fb) = (true, q, qs) := by simp [J7]
   rw [e]
   exact UR k W T cs ds ls q qs spot way (by simp at hp; omega) hneeds hclone
 ·have h := WB k W T cs ds ls n ps kind spot way b fb hp hk hls hn hneeds (hby rfl hk) (hfair rfl hk) hclone
  cases hb : (b && fb) with
  | false =>
    rw [hb] at h
    have e : J7 true kind ls ps n false = (false, ls, ps) := by simp [J7, hk]
    rw [e]; simpa using h
  | true =>
    rw [hb] at h
    have e : J7 true kind ls ps n true = (true, n, FR ls ps) := by simp [J7, hk]
    rw [e]; simpa using h
def Rd (kind : Int) (n0 n1 n2 n3 : List Int) (b0 b1 b2 b3 : Bool) : List Int × Bool :=
 if kind = 0 then (n0, b0) else if kind = 1 then (n1, b1) else if kind = 2 then (n2, b2) else if kind = 3 then (n3, b3) else ([], false)
set_option maxHeartbeats 8000000 in
theorem WC (k : cFn Tryz.prog FQ 72 [.t 4, .t 5] BH) (W T : Int) (cs : List Bool) (ds ls n0 n1 n2 n3 : List Int) (ps : List (List Int)) (kind spot way : Int) (b0 b1 b2 e3 : Bool)
  (h0 : SoundAt Tryz.prog 190 [.agg [.v (.int .i64 W), .v (.int .i64 T), .sl 1 1 (AC cs)], .sl 1 1 (AB ls), .v (.int .i64 spot), .v (.int .i64 way)] (.tup [.os 1 (AB n0), .v (.bool b0)]) [.bot, .bot, .bot, .bot])
  (h1 : SoundAt Tryz.prog 191 [.agg [.v (.int .i64 W), .v (.int .i64 T), .sl 1 1 (AC cs)], .sl 1 1 (AB ls), .v (.int .i64 spot)] (.tup [.os 1 (AB n1), .v (.bool b1)]) [.bot, .bot, .bot])
  (h2 : SoundAt Tryz.prog 192 [.agg [.v (.int .i64 W), .v (.int .i64 T), .sl 1 1 (AC cs)], .sl 1 1 (AB ls), .v (.int .i64 spot)] (.tup [.os 1 (AB n2), .v (.bool b2)]) [.bot, .bot, .bot])
  (h3 : SoundAt Tryz.prog 193 [.agg [.v (.int .i64 W), .v (.int .i64 T), .sl 1 1 (AC cs)], .sl 1 1 (AB ds), .sl 1 1 (AB ls)] (.os 1 (AB n3)) [.bot, .bot, .bot])
  (h4 : SoundAt Tryz.prog 194 [.sl 1 1 (AB n3), .sl 1 1 (AB ls)] (.v (.bool e3)) [.bot, .bot]) :
  SoundAt Tryz.prog FQ [.vp 1 [.v (.int .i64 W), .v (.int .i64 T), .sl 1 1 (AC cs), .sl 1 1 (AB ds), .sl 1 1 (AB ls), .sl 1 1 (sls 1 ps)] 0, M4 kind spot way]
   (.tup [.os 1 (AB (Rd kind n0 n1 n2 n3 b0 b1 b2 (!e3)).1), .v (.bool (Rd kind n0 n1 n2 n3 b0 b1 b2 (!e3)).2)]) [.bot, .bot] := by
 have t0 : (AB n0).take n0.length = AB n0 := AD n0
 have t1 : (AB n1).take n1.length = AB n1 := AD n1
 have t2 : (AB n2).take n2.length = AB n2 := AD n2
 have t3 : (AB n3).take n3.length = AB n3 := AD n3
 refine AE (md := mdo) (ms := [false, false]) k (by simp) ?_
 by_cases hk0 : kind = 0
 ·simp [BH, hk0, Rd]
  (repeat' first | omega | apply And.intro) <;>
  ·refine AA h0 ?_
   simp [t0]
 by_cases hk1 : kind = 1
 ·subst hk1
  simp [BH, Rd]
  (repeat' first | omega | apply And.intro) <;>
  ·refine AA h1 ?_
   simp [t1]
 by_cases hk2 : kind = 2
 ·subst hk2
  simp [BH, Rd]
  (repeat' first | omega | apply And.intro) <;>
  ·refine AA h2 ?_
   simp [t2]
 by_cases hk3 : kind = 3
 ·subst hk3
  simp [BH, Rd]
  (repeat' first | omega | apply And.intro) <;>
  ·refine AA h3 ?_
   simp
   (repeat' first | omega | apply And.intro) <;>
   ·refine AA h4 ?_
    simp [t3]
 ·simp [BH, hk0, hk1, hk2, hk3, Rd]
@[simp] abbrev Pe : Nat := 179
def Pf : ACode := .seq (.reg [.o 2 .box [.t 0], .o 4 .mv [.kb false]]) <| .seq (.reg [.la 5 3 2, .o 6 (.call 108 []) [.t 5], .m 7 6, .g 8 (.load true 3) [.t 2] 7 true, .mg 9 1 7 true, .g 10 (.call 154 []) [.t 8, .t 9] 7 true, .o 11 .pick [.t 7, .t 10, .kb false], .m 4 11]) <| .ret
theorem WD : cFn Tryz.prog Pe 12 [.t 4] Pf := ⟨Tryz.f179, _, Tryz.func179, rfl, by kernel_rfl, by kernel_rfl, by kernel_rfl, by kernel_rfl⟩
@[simp] abbrev BI : Nat := 53
def CV : ACode := .seq (.reg [.o 2 .mv [.c (.os 3 [])]]) <| .seq (.reg [.m 3 0, .m 4 0, .n 5 4, .m 6 0, .n 7 6, .o 8 (.slice 3 false false true true) [.t 3, .t 5, .t 7], .m 2 8]) <| .ret
theorem FS : cFn Tryz.prog BI 9 [.t 2] CV := ⟨Tryz.f53, _, Tryz.func53, rfl, by kernel_rfl, by kernel_rfl, by kernel_rfl, by kernel_rfl⟩
@[simp] abbrev AU : Nat := 178
def Fs : ACode := .seq (.reg [.o 2 .mv [.kb false]]) <| .seq (.reg [.m 3 0, .o 4 (.bin .eql 0) [.t 3, .k 1], .m 5 4, .mg 6 0 5 false, .g 7 (.bin .eql 0) [.t 6, .k 2] 5 false, .o 8 .pick [.t 5, .kb true, .t 7], .m 2 8]) <| .ret
theorem LV : cFn Tryz.prog AU 9 [.t 2] Fs := ⟨Tryz.f178, _, Tryz.func178, rfl, by kernel_rfl, by kernel_rfl, by kernel_rfl, by kernel_rfl⟩
@[simp] abbrev G1 : Nat := 127
def C5 : ACode := .seq (.reg [.o 37 (.bin .lss 0) [.t 36, .t 35]]) <| .seq (.cond (.t 37) ( .skip) ( .exit 0)) <| .seq (.block 1 ( .seq (.reg [.m 38 36, .o 39 (.iadr 1) [.t 34, .t 36], .l 40 39, .m 7 38, .m 8 40]) <| .seq (.reg [.m 41 6, .m 42 8, .o 43 (.callv []) [.t 41, .t 42], .m 44 43, .mg 45 3 44 true, .mg 46 7 44 true, .g 47 (.iadr 1) [.t 45, .t 46] 44 true, .lg 48 47 44 true, .mg 49 8 44 true, .g 50 (.bin .neq 0) [.t 48, .t 49] 44 true, .o 51 .pick [.t 44, .t 50, .kb false]]) <| .cond (.t 51) ( .reg [.m 52 5, .m 53 7, .o 54 (.build dz [(0, 1), (1, 1), (2, 1)]) [.k 1, .t 53, .k 0], .o 55 (.bsl 3) [.t 54], .o 56 (.app 3 24 true) [.t 52, .t 55], .m 5 56]) ( .skip))) <| .reg [.o 57 (.bin .add 0) [.t 36, .k 1], .m 36 57]
def C6 : ACode := .seq (.reg [.o 61 (.bin .lss 0) [.t 60, .t 59]]) <| .seq (.cond (.t 61) ( .skip) ( .exit 2)) <| .seq (.block 3 ( .seq (.reg [.m 62 60, .o 63 (.iadr 1) [.t 58, .t 60], .l 64 63, .m 9 62, .m 10 64]) <| .seq (.reg [.m 65 6, .m 66 10, .o 67 (.callv []) [.t 65, .t 66], .m 68 67, .mg 69 0 68 true, .g 70 .nilck [.t 69] 68 true, .fg 71 4 70 68 true, .lg 72 71 68 true, .mg 73 9 68 true, .g 74 (.iadr 1) [.t 72, .t 73] 68 true, .lg 75 74 68 true, .mg 76 10 68 true, .g 77 (.bin .neq 0) [.t 75, .t 76] 68 true, .o 78 .pick [.t 68, .t 77, .kb false]]) <| .cond (.t 78) ( .reg [.m 79 5, .m 80 9, .m 81 10, .o 82 (.build dz [(0, 1), (1, 1), (2, 1)]) [.k 0, .t 80, .t 81], .o 83 (.bsl 3) [.t 82], .o 84 (.app 3 24 true) [.t 79, .t 83], .m 5 84]) ( .skip))) <| .reg [.o 85 (.bin .add 0) [.t 60, .k 1], .m 60 85]
def Bt : ACode := .seq (.seq (.reg [.m 29 4, .o 30 (.un .not) [.t 29]]) <| .cond (.t 30) ( .seq (.reg [.o 2 .mv [.c (.os 3 [])]]) <| .ret) ( .skip)) <| .seq (.reg [.o 5 .mv [.c (.os 3 [])]]) <| .seq (.reg [.o 6 .mv [.f 178]]) <| .seq (.seq (.reg [.m 31 0, .o 32 .nilck [.t 31], .f 33 4 32, .l 34 33, .n 35 34, .o 36 .mv [.k 0]]) <| .block 0 ( .loop [(3, 1), (5, 3), (34, 1)] [0, 3, 5, 6, 34, 35, 36] C5)) <| .seq (.seq (.reg [.m 58 3, .n 59 58, .o 60 .mv [.k 0]]) <| .block 2 ( .loop [(5, 3), (58, 1)] [0, 5, 6, 58, 59, 60] C6)) <| .seq (.reg [.m 86 5, .o 87 (.call 53 []) [.t 86], .m 2 87]) <| .ret
abbrev AX : Plan := .al (.o 26 (.call 177 []) [.t 15, .t 19, .t 25]) ( .take (.m 11 26) <| .take (.e 27 0 11) <| .take (.e 28 1 11) <| .take (.m 3 27) <| .take (.m 4 28) <| .done)
abbrev Bu : Plan := .al (.o 25 (.mksl 1 8 (.v (.int .i64 (0)))) [.t 24, .t 24]) AX
abbrev FT : Plan := .al (.l 23 22) ( .take (.n 24 23) <| .al (.o 25 (.mksl 1 8 (.v (.int .i64 (0)))) [.t 24, .t 24]) AX)
def G2 : ACode := .seq (.reg [.o 2 .mv [.c (.os 3 [])]]) <| .seq (.draw ( .take (.m 12 0) <| .take (.o 13 .nilck [.t 12]) <| .take (.f 14 0 13) <| .take (.m 16 0) <| .take (.o 17 .nilck [.t 16]) <| .take (.f 18 3 17) <| .take (.m 20 0) <| .take (.o 21 .nilck [.t 20]) <| .take (.f 22 3 21) <| .alt (.la 15 3 14) ( .alt (.l 19 18) FT <| .al (.l 23 22) ( .take (.n 24 23) <| .alt (.l 19 18) Bu <| .al (.o 25 (.mksl 1 8 (.v (.int .i64 (0)))) [.t 24, .t 24]) ( .al (.l 19 18) AX))) <| .alt (.l 19 18) ( .alt (.la 15 3 14) FT <| .al (.l 23 22) ( .take (.n 24 23) <| .alt (.la 15 3 14) Bu <| .al (.o 25 (.mksl 1 8 (.v (.int .i64 (0)))) [.t 24, .t 24]) ( .al (.la 15 3 14) AX))) <| .al (.l 23 22) ( .take (.n 24 23) <| .alt (.la 15 3 14) ( .alt (.l 19 18) Bu <| .al (.o 25 (.mksl 1 8 (.v (.int .i64 (0)))) [.t 24, .t 24]) ( .al (.l 19 18) AX)) <| .alt (.l 19 18) ( .alt (.la 15 3 14) Bu <| .al (.o 25 (.mksl 1 8 (.v (.int .i64 (0)))) [.t 24, .t 24]) ( .al (.la 15 3 14) AX)) <| .al (.o 25 (.mksl 1 8 (.v (.int .i64 (0)))) [.t 24, .t 24]) ( .alt (.la 15 3 14) ( .al (.l 19 18) AX) <| .al (.l 19 18) ( .al (.la 15 3 14) AX))))) <| .gc [] [0, 3, 4] Bt
theorem M5 : cFn Tryz.prog G1 88 [.t 2] G2 := ⟨Tryz.f127, _, Tryz.func127, rfl, by kernel_rfl, by kernel_rfl, by kernel_rfl, by kernel_rfl⟩
@[simp] abbrev MA : Nat := 75
abbrev D4 : Plan := .take (.g 58 (.bin .neq 0) [.t 52, .t 57] 48 true) <| .take (.o 59 .pick [.t 48, .t 58, .kb false]) <| .done
def BJ : ACode := .seq (.seq (.reg [.m 28 6, .m 29 4, .n 30 29, .o 31 (.bin .lss 0) [.t 28, .t 30]]) <| .cond (.t 31) ( .skip) ( .exit 0)) <| .seq (.block 1 ( .seq (.draw ( .take (.f 34 4 1) <| .take (.m 36 6) <| .al (.l 35 34) ( .take (.o 37 (.iadr 1) [.t 35, .t 36]) <| .al (.l 38 37) ( .take (.o 39 (.bin .eql 0) [.t 38, .k 1]) <| .take (.m 40 39) <| .take (.fg 41 4 1 40 false) <| .take (.mg 43 6 40 false) <| .al (.lg 42 41 40 false) ( .take (.g 44 (.iadr 1) [.t 42, .t 43] 40 false) <| .al (.lg 45 44 40 false) ( .take (.g 46 (.bin .eql 0) [.t 45, .k 2] 40 false) <| .take (.o 47 .pick [.t 40, .kb true, .t 46]) <| .take (.m 48 47) <| .take (.mg 49 4 48 true) <| .take (.mg 50 6 48 true) <| .take (.g 51 (.iadr 1) [.t 49, .t 50] 48 true) <| .take (.fg 53 4 1 48 true) <| .take (.mg 55 6 48 true) <| .alt (.lg 52 51 48 true) ( .al (.lg 54 53 48 true) ( .take (.g 56 (.iadr 1) [.t 54, .t 55] 48 true) <| .al (.lg 57 56 48 true) D4)) <| .al (.lg 54 53 48 true) ( .take (.g 56 (.iadr 1) [.t 54, .t 55] 48 true) <| .alt (.lg 52 51 48 true) ( .al (.lg 57 56 48 true) D4) <| .al (.lg 57 56 48 true) ( .al (.lg 52 51 48 true) D4)))))))) <| .cond (.t 59) ( .reg [.m 60 3, .m 61 6, .o 62 (.build dz [(0, 1), (1, 1)]) [.k 1, .t 61], .o 63 (.bsl 3) [.t 62], .o 64 (.app 3 24 true) [.t 60, .t 63], .m 3 64]) ( .skip))) <| .reg [.m 32 6, .o 33 (.bin .add 0) [.t 32, .k 1], .m 6 33]
abbrev D5 : Plan := .take (.g 93 (.bin .neq 0) [.t 87, .t 92] 83 true) <| .take (.o 94 .pick [.t 83, .t 93, .kb false]) <| .done
def BK : ACode := .seq (.seq (.reg [.m 65 7, .m 66 4, .n 67 66, .o 68 (.bin .lss 0) [.t 65, .t 67]]) <| .cond (.t 68) ( .skip) ( .exit 2)) <| .seq (.block 3 ( .seq (.draw ( .take (.m 71 4) <| .take (.m 72 7) <| .take (.o 73 (.iadr 1) [.t 71, .t 72]) <| .al (.l 74 73) ( .take (.o 75 (.bin .eql 0) [.t 74, .k 1]) <| .take (.m 76 75) <| .take (.mg 77 4 76 false) <| .take (.mg 78 7 76 false) <| .take (.g 79 (.iadr 1) [.t 77, .t 78] 76 false) <| .al (.lg 80 79 76 false) ( .take (.g 81 (.bin .eql 0) [.t 80, .k 2] 76 false) <| .take (.o 82 .pick [.t 76, .kb true, .t 81]) <| .take (.m 83 82) <| .take (.mg 84 4 83 true) <| .take (.mg 85 7 83 true) <| .take (.g 86 (.iadr 1) [.t 84, .t 85] 83 true) <| .take (.fg 88 4 1 83 true) <| .take (.mg 90 7 83 true) <| .alt (.lg 87 86 83 true) ( .al (.lg 89 88 83 true) ( .take (.g 91 (.iadr 1) [.t 89, .t 90] 83 true) <| .al (.lg 92 91 83 true) D5)) <| .al (.lg 89 88 83 true) ( .take (.g 91 (.iadr 1) [.t 89, .t 90] 83 true) <| .alt (.lg 87 86 83 true) ( .al (.lg 92 91 83 true) D5) <| .al (.lg 92 91 83 true) ( .al (.lg 87 86 83 true) D5)))))) <| .cond (.t 94) ( .reg [.m 95 3, .m 96 7, .m 97 4, .m 98 7, .o 99 (.iadr 1) [.t 97, .t 98], .l 100 99, .o 101 (.build dz [(0, 1), (1, 1), (2, 1)]) [.k 0, .t 96, .t 100], .o 102 (.bsl 3) [.t 101], .o 103 (.app 3 24 true) [.t 95, .t 102], .m 3 103]) ( .skip))) <| .reg [.m 69 7, .o 70 (.bin .add 0) [.t 69, .k 1], .m 7 70]
def Df : ACode := .seq (.seq (.reg [.m 20 5, .o 21 (.un .not) [.t 20], .m 22 21, .g 23 (.load true 6) [.t 1] 22 false, .g 24 (.call 18 []) [.t 23] 22 false, .g 25 (.un .not) [.t 24] 22 false, .o 26 .pick [.t 22, .kb true, .t 25]]) <| .cond (.t 26) ( .seq (.reg [.m 27 3, .m 2 27]) <| .ret) ( .skip)) <| .seq (.seq (.reg [.o 6 .mv [.k 0]]) <| .block 0 ( .loop [(3, 3), (4, 1)] [1, 3, 4, 6] BJ)) <| .seq (.seq (.reg [.o 7 .mv [.k 0]]) <| .block 2 ( .loop [(3, 3), (4, 1)] [1, 3, 4, 7] BK)) <| .seq (.reg [.m 104 3, .m 2 104]) <| .ret
abbrev CW : Plan := .al (.o 17 (.call 145 []) [.t 11, .t 13, .t 16]) ( .take (.m 9 17) <| .take (.e 18 0 9) <| .take (.e 19 1 9) <| .take (.m 4 18) <| .take (.m 5 19) <| .done)
abbrev Dg : Plan := .al (.o 16 (.call 146 []) [.t 15]) CW
abbrev JJ : Plan := .alt (.la 11 3 10) Dg <| .al (.o 16 (.call 146 []) [.t 15]) ( .al (.la 11 3 10) CW)
abbrev JK : Plan := .alt (.l 13 12) Dg <| .al (.o 16 (.call 146 []) [.t 15]) ( .al (.l 13 12) CW)
def MB : ACode := .seq (.reg [.o 1 .box [.t 0], .o 2 .mv [.c (.os 3 [])]]) <| .seq (.reg [.o 8 (.bsl 3) [], .m 3 8]) <| .seq (.draw ( .take (.f 10 0 1) <| .take (.f 12 3 1) <| .take (.f 14 0 1) <| .alt (.la 11 3 10) ( .alt (.l 13 12) ( .al (.la 15 3 14) Dg) <| .al (.la 15 3 14) JK) <| .alt (.l 13 12) ( .alt (.la 11 3 10) ( .al (.la 15 3 14) Dg) <| .al (.la 15 3 14) JJ) <| .al (.la 15 3 14) ( .alt (.la 11 3 10) JK <| .alt (.l 13 12) JJ <| .al (.o 16 (.call 146 []) [.t 15]) ( .alt (.la 11 3 10) ( .al (.l 13 12) CW) <| .al (.l 13 12) ( .al (.la 11 3 10) CW))))) <| .gc [] [1, 3, 4, 5] Df
theorem TI : cFn Tryz.prog MA 105 [.t 2] MB := ⟨Tryz.f75, _, Tryz.func75, rfl, by kernel_rfl, by kernel_rfl, by kernel_rfl, by kernel_rfl⟩
@[simp] def md3 (f : Nat) : List Bool := if f = 999999 then [true, false] else if f = BI then [true] else md0 f
def A8 (d : Int × Int × Int) : AV := .agg [.v (.int .i64 d.1), .v (.int .i64 d.2.1), .v (.int .i64 d.2.2)]
def dsA (xs : List (Int × Int × Int)) : List AV := xs.map A8
@[simp] theorem i7 (xs : List (Int × Int × Int)) : (dsA xs).length = xs.length := by simp [dsA]
@[simp] theorem mK : dsA [] = [] := rfl
theorem Mw (a b : List (Int × Int × Int)) : dsA (a ++ b) = dsA a ++ dsA b := by simp [dsA]
theorem gu {xs : List (Int × Int × Int)} {i : Nat} (h : i < xs.length) : (dsA xs)[i]? = some (A8 xs[i]) := by simp [dsA, h]
@[simp] theorem lM {xs : List (Int × Int × Int)} {i : Nat} (h : i < (dsA xs).length) : (dsA xs)[i] = A8 (xs[i]'(by simpa using h)) := by simp [dsA]
theorem ZA {xs : List (Int × Int × Int)} {i : Nat} (h : i < xs.length) : (dsA xs)[i]? = some (.agg [.v (.int .i64 xs[i].1), .v (.int .i64 xs[i].2.1), .v (.int .i64 xs[i].2.2)]) := gu h
theorem Pg (xs : List (Int × Int × Int)) : SoundAt Tryz.prog BI [.os 3 (dsA xs)] (.os 3 (dsA xs)) [.bot] := by
 refine AE (md := md3) (ms := [false]) FS (by simp) ?_
 simp [CV]
 exact List.take_of_length_le (by simp)
theorem Ft (w : Int) : SoundAt Tryz.prog AU [.v (.int .i64 w)] (.v (.bool (decide (w = 1 ∨ w = 2)))) [.bot] := by
 refine AE (md := md3) (ms := [false]) LV (by simp) ?_
 by_cases h1 : w = 1 <;> by_cases h2 : w = 2 <;> simp [Fs, h1, h2]
abbrev de := Int × Int × Int
def J8 (f : List Int → List (List Int) → de → Bool × List Int × List (List Int)) : List Int → List (List Int) → List de → List Int × List (List Int) × Nat
 | ls, ps, [] => (ls, ps, 0)
 | ls, ps, d :: xs => let r := f ls ps d; let q := J8 f r.2.1 r.2.2 xs; (q.1, q.2.1, q.2.2 + if r.1 then 1 else 0)
theorem OC (f : List Int → List (List Int) → de → Bool × List Int × List (List Int)) : ∀ (xs : List de) (ls : List Int) (ps : List (List Int)) (d : de),
  J8 f ls ps (xs ++ [d]) = (let q := J8 f ls ps xs; let r := f q.1 q.2.1 d; (r.2.1, r.2.2, q.2.2 + if r.1 then 1 else 0))
 | [], ls, ps, d => by simp only [List.nil_append, J8, Nat.zero_add]; rfl
 | x :: xs, ls, ps, d => by
   rw [List.cons_append, J8, J8]
   simp only [OC f xs]
   simp only [Nat.add_right_comm]
def US (W T : Int) (cs : List Bool) (ds : List Int) (ps : List (List Int)) : Bool := T4 ps.length (fun k => Af W T cs ds (pti ps k))
def A0 (W T : Int) (cs : List Bool) (ds ls : List Int) (ps : List (List Int)) : Bool := (Af W T cs ds ls && decide (ps.length ≤ 20)) && US W T cs ds ps
theorem CH (W T : Int) (cs : List Bool) (ds ls : List Int) (ps : List (List Int)) (hc : cs.length < 2 ^ 40) (hd : ds.length < 2 ^ 40) (hl : ls.length < 2 ^ 40) (hb : ps.length < 2 ^ 40) (hp : ∀ p ∈ ps, p.length < 2 ^ 40) :
  SoundAt Tryz.prog Gs [bkA W T cs ds ls ps] (.v (.bool (A0 W T cs ds ls ps))) [.bot] := by
 refine AE (md := md0) (ms := [false]) Rb (by simp) ?_
 simp [K6]
 refine AF (fun m E H => ∃ i : Nat, m = ps.length - i ∧ i ≤ ps.length ∧ T4 i (fun k => Af W T cs ds (pti ps k)) = true ∧ H = [some (.box [.v (.int .i64 W), .v (.int .i64 T), .sl 1 1 (AC cs), .sl 1 1 (AB ds), .sl 1 1 (AB ls), .sl 1 1 (sls 1 ps)])] ∧ E = [(1, .lp 0 0 0 0), (3, .v (.int .i64 i))]) ps.length ⟨0, by simp [GT]⟩ ?_
 rintro J hJ m E H ⟨i, rfl, hi, ha, rfl, rfl⟩
 by_cases h : i < ps.length
 case neg =>
  have : i = ps.length := by omega
  subst this
  simp [Eo]
  refine AA (BW W T cs ds ls hc hd hl) ?_
  simp [A0, US, ha]
  cases Af W T cs ds ls <;> simp
  omega
 have one := BW W T cs ds (pti ps i) hc hd (hp _ (Kg h))
 have hno : Af W T cs ds (pti ps i) = false → A0 W T cs ds ls ps = false := by
  intro hf
  have : US W T cs ds ps = false := F4 h hf
  simp [A0, this]
 simp [Eo, h]
 (repeat' first | assumption | omega | apply And.intro) <;>
 ·refine AA one ?_
  cases hf : Af W T cs ds (pti ps i) with
  | false => simp [hno hf]
  | true =>
    simp
    exact ⟨by omega, _, by omega, hJ _ _ _ ⟨i + 1, rfl, h, by rw [GU, ha, hf]; rfl, rfl, rfl⟩⟩
theorem Ph (W T : Int) (cs : List Bool) (ds ls : List Int) (ps : List (List Int)) (p : List Int) (hc : cs.length < 2 ^ 40) (hd : ds.length < 2 ^ 40) (hp : p.length < 2 ^ 40) :
  SoundAt Tryz.prog JE [.sl 1 1 (AB p), .vp 1 [.v (.int .i64 W), .v (.int .i64 T), .sl 1 1 (AC cs), .sl 1 1 (AB ds), .sl 1 1 (AB ls), .sl 1 1 (sls 1 ps)] 0] (.v (.bool (!Af W T cs ds p))) [.bot, .bot] := by
 refine AE (md := md0) (ms := [false, false]) Pa (by simp) ?_
 simp [JF]
 refine AA (HF W T cs ds p hc hd hp) ?_
 simp
@[simp] def bkP (W T : Int) (cs : List Bool) (ds ls : List Int) (ps : List (List Int)) : AV := .vp 1 [.v (.int .i64 W), .v (.int .i64 T), .sl 1 1 (AC cs), .sl 1 1 (AB ds), .sl 1 1 (AB ls), .sl 1 1 (sls 1 ps)] 0
def Qe (W T : Int) (cs : List Bool) (ds : List Int) (ps : List (List Int)) : Int := D2 (fun k => !Af W T cs ds (pti ps k)) ps.length
theorem Pj (W T : Int) (cs : List Bool) (ds ls : List Int) (ps qs : List (List Int)) (hc : cs.length < 2 ^ 40) (hd : ds.length < 2 ^ 40) (hb : ps.length < 2 ^ 40) (hp : ∀ p ∈ ps, p.length < 2 ^ 40) :
  SoundAt Tryz.prog EJ [.sl 1 1 (sls 1 ps), .fn 100 [bkP W T cs ds ls qs]] (.v (.int .i64 (Qe W T cs ds ps))) [.bot, .bot] := by
 refine AE (md := md0) (ms := [false, false]) Ic (by simp) ?_
 simp [EK]
 refine AF (fun m E H => ∃ i : Nat, m = ps.length - i ∧ i ≤ ps.length ∧ (∀ k : Nat, k < i → (!Af W T cs ds (pti ps k)) = false) ∧ H = [] ∧ E = [(0, .sl 1 1 (sls 1 ps)), (1, .fn 100 [bkP W T cs ds ls qs]), (7, .v (.int .i64 ps.length)), (8, .v (.int .i64 i))]) ps.length ⟨0, by simp⟩ ?_
 rintro J hJ m E H ⟨i, rfl, hi, ha, rfl, rfl⟩
 by_cases h : i < ps.length
 case neg =>
  have : i = ps.length := by omega
  subst this
  have e : Qe W T cs ds ps = -1 := Bk ha
  simp [Bl, e]
 have one := Ph W T cs ds ls qs (pti ps i) hc hd (hp _ (Kg h))
 simp [Bl, h]
 refine ⟨by kernel_rfl, ?_⟩
 refine AA one ?_
 cases hf : Af W T cs ds (pti ps i) with
 | false =>
   have e : Qe W T cs ds ps = i := B5 h (by simp [hf]) ha
   simp [e]
 | true =>
   simp
   refine ⟨by omega, _, by omega, hJ _ _ _ ⟨i + 1, rfl, h, ?_, rfl, rfl⟩⟩
   intro k hk
   rcases Nat.lt_or_ge k i with h1 | h1
   ·exact ha k h1
   ·have : k = i := by omega
    subst this; simp [hf]
theorem MC (W T : Int) (cs : List Bool) (ds ls : List Int) (ps qs : List (List Int)) (hc : cs.length < 2 ^ 40) (hd : ds.length < 2 ^ 40) (hb : ps.length < 2 ^ 40) (hp : ∀ p ∈ ps, p.length < 2 ^ 40) :
  SoundAt Tryz.prog DL [.sl 1 1 (sls 1 ps), .fn 100 [bkP W T cs ds ls qs]] (.v (.bool (!US W T cs ds ps))) [.bot, .bot] := by
 refine AE (md := md0) (ms := [false, false]) Gt (by simp) ?_
 simp [DM]
 refine AA (Pj W T cs ds ls ps qs hc hd hb hp) ?_
 have e : decide (0 ≤ Qe W T cs ds ps) = !US W T cs ds ps := by
  cases hpb : US W T cs ds ps with
  | true =>
    have h2 : Qe W T cs ds ps = -1 := Bk fun k hk => by
     have := (Cl _ _).1 hpb k hk
     simp [this]
    rw [h2]; rfl
  | false =>
    rcases L7 (fun k => !Af W T cs ds (pti ps k)) ps.length with h2 | ⟨k, hk, hx, h2⟩
    ·exfalso
     have : US W T cs ds ps = true := by
      rw [US, Cl]
      intro k hk
      cases hx : Af W T cs ds (pti ps k) with
      | true => rfl
      | false =>
        exfalso
        have hm : ∃ x ∈ List.range ps.length, (!Af W T cs ds (pti ps x)) = true := ⟨k, by simpa using hk, by simp [hx]⟩
        have hs := List.find?_isSome.2 hm
        unfold D2 at h2
        split at h2
        ·omega
        ·rename_i h9; rw [h9] at hs; cases hs
     rw [this] at hpb; cases hpb
    ·have h3 : Qe W T cs ds ps = k := h2
     rw [h3]; simp
 simp [e]
theorem Re (W T : Int) (cs : List Bool) (ds ls : List Int) (ps : List (List Int)) (hc : cs.length < 2 ^ 40) (hd : ds.length < 2 ^ 40) (hl : ls.length < 2 ^ 40) (hb : ps.length < 2 ^ 40) (hp : ∀ p ∈ ps, p.length < 2 ^ 40) :
  SoundAt Tryz.prog K7 [bkA W T cs ds ls ps] (.v (.bool (A0 W T cs ds ls ps))) [.bot] := by
 refine AE (md := md0) (ms := [false]) Rc (by simp) ?_
 simp [K8]
 refine AA (HF W T cs ds ls hc hd hl) ?_
 cases hf : Af W T cs ds ls with
 | false => simp [A0, hf]
 | true =>
 by_cases h20 : ps.length ≤ 20
 case neg =>
  have h20' : ¬ (ps.length : Int) ≤ 20 := by omega
  simp [A0, hf, h20, h20']
 have h20' : (ps.length : Int) ≤ 20 := by omega
 simp [h20']
 refine AA (MC W T cs ds ls ps ps hc hd hb hp) ?_
 simp [A0, hf, h20]
theorem Mx {W T : Int} {cs : List Bool} {ds ls : List Int} {ps : List (List Int)} (h : A0 W T cs ds ls ps = true) : Af W T cs ds ls = true := by
 simp only [A0, Bool.and_eq_true] at h; exact h.1.1
def df (W T : Int) (cs : List Bool) (ds ls : List Int) (ps : List (List Int)) : Bool := A0 W T cs ds ls ps && JZ cs ls
theorem Qf (W T : Int) (cs : List Bool) (ds ls : List Int) (ps : List (List Int)) (hc : cs.length < 2 ^ 40) (hd : ds.length < 2 ^ 40) (hl : ls.length < 2 ^ 40) (hb : ps.length < 2 ^ 40) (hp : ∀ p ∈ ps, p.length < 2 ^ 40) :
  SoundAt Tryz.prog J1 [bkA W T cs ds ls ps] (.v (.bool (df W T cs ds ls ps))) [.bot] := by
 refine AE (md := md0) (ms := [false]) Qb (by simp) ?_
 simp [J3]
 refine AA (CH W T cs ds ls ps hc hd hl hb hp) ?_
 cases hv : A0 W T cs ds ls ps with
 | false => simp [df, hv]
 | true =>
 simp
 refine AA (L1 W T cs ds ls hc hd hl) ?_
 simp [df, hv, Ct, Mx hv]
theorem kI {cs : List Bool} {ds ls : List Int} {ps : List (List Int)} {n : Nat} (h : db cs ds ls ps ≤ n) : cs.length ≤ n ∧ ds.length ≤ n ∧ ls.length ≤ n ∧ ps.length ≤ n ∧ ∀ p ∈ ps, p.length ≤ n := by
 unfold db at h
 refine ⟨by omega, by omega, by omega, by omega, fun p hp => ?_⟩
 obtain ⟨i, hi, rfl⟩ := List.getElem_of_mem hp
 have := kE hi
 rw [D3 hi] at this
 omega
@[simp] abbrev LA : Nat := 147
def LB : ACode := .seq (.reg [.o 1 .box [.t 0], .o 2 .mv [.k 0]]) <| .seq (.seq (.reg [.la 3 3 1, .o 4 (.call 168 []) [.t 3], .o 5 (.un .not) [.t 4]]) <| .cond (.t 5) ( .seq (.reg [.o 2 .mv [.k (-1)]]) <| .ret) ( .skip)) <| .seq (.reg [.f 6 2 1, .l 7 6, .o 8 (.call 203 []) [.t 7], .m 2 8]) <| .ret
theorem Rf : cFn Tryz.prog LA 9 [.t 2] LB := ⟨Tryz.f147, _, Tryz.func147, rfl, by kernel_rfl, by kernel_rfl, by kernel_rfl, by kernel_rfl⟩
@[simp] abbrev MD : Nat := 144
def CX : ACode := .seq (.seq (.reg [.m 11 6, .m 12 1, .n 13 12, .o 14 (.bin .lss 0) [.t 11, .t 13]]) <| .cond (.t 14) ( .skip) ( .exit 0)) <| .seq (.block 1 ( .seq (.reg [.m 17 1, .m 18 6, .o 19 (.iadr 1) [.t 17, .t 18], .l 20 19, .o 21 (.bin .eql 0) [.t 20, .k 1], .m 22 21, .mg 23 1 22 false, .mg 24 6 22 false, .g 25 (.iadr 1) [.t 23, .t 24] 22 false, .lg 26 25 22 false, .g 27 (.bin .eql 0) [.t 26, .k 2] 22 false, .o 28 .pick [.t 22, .kb true, .t 27]]) <| .cond (.t 28) ( .reg [.m 29 5, .o 30 (.bin .add 0) [.t 29, .k 1], .m 5 30]) ( .skip))) <| .reg [.m 15 6, .o 16 (.bin .add 0) [.t 15, .k 1], .m 6 16]
def ME : ACode := .seq (.reg [.o 2 .box [.t 0], .o 4 .mv [.k 0]]) <| .seq (.seq (.reg [.la 7 3 2, .m 8 1, .o 9 (.call 122 []) [.t 7, .t 8], .o 10 (.un .not) [.t 9]]) <| .cond (.t 10) ( .seq (.reg [.o 4 .mv [.k (-1)]]) <| .ret) ( .skip)) <| .seq (.reg [.o 5 .mv [.k 0]]) <| .seq (.seq (.reg [.o 6 .mv [.k 0]]) <| .block 0 ( .loop [(1, 1)] [1, 5, 6] CX)) <| .seq (.reg [.m 31 5, .m 4 31]) <| .ret
theorem TJ : cFn Tryz.prog MD 32 [.t 4] ME := ⟨Tryz.f144, _, Tryz.func144, rfl, by kernel_rfl, by kernel_rfl, by kernel_rfl, by kernel_rfl⟩
@[simp] abbrev TK : Nat := 183
def Jb : ACode := .seq (.reg [.o 11 (.bin .lss 0) [.t 10, .t 9]]) <| .seq (.cond (.t 11) ( .skip) ( .exit 0)) <| .seq (.block 1 ( .seq (.reg [.o 12 (.iadr 1) [.t 8, .t 10], .l 13 12, .m 7 13]) <| .seq (.reg [.m 14 1, .m 15 7, .o 16 (.call 227 []) [.t 14, .t 15]]) <| .cond (.t 16) ( .reg [.m 17 5, .o 18 (.bin .add 0) [.t 17, .k 1], .m 5 18]) ( .skip))) <| .reg [.o 19 (.bin .add 0) [.t 10, .k 1], .m 10 19]
def TL : ACode := .seq (.reg [.o 4 .mv [.k 0]]) <| .seq (.reg [.o 5 .mv [.k 0]]) <| .seq (.seq (.reg [.m 8 0, .n 9 8, .o 10 .mv [.k 0]]) <| .block 0 ( .loop [(1, 1), (8, 1)] [1, 5, 8, 9, 10] Jb)) <| .seq (.reg [.m 20 5, .m 4 20]) <| .ret
theorem YO : cFn Tryz.prog TK 21 [.t 4] TL := ⟨Tryz.f183, _, Tryz.func183, rfl, by kernel_rfl, by kernel_rfl, by kernel_rfl, by kernel_rfl⟩
@[simp] abbrev Ed : Nat := 227
def Ee : ACode := .seq (.reg [.o 4 .mv [.kb false]]) <| .seq (.reg [.m 5 0, .m 6 1, .o 7 (.call 258 []) [.t 5, .t 6], .o 8 (.bin .geq 0) [.t 7, .k 0], .m 4 8]) <| .ret
theorem Jc : cFn Tryz.prog Ed 9 [.t 4] Ee := ⟨Tryz.f227, _, Tryz.func227, rfl, by kernel_rfl, by kernel_rfl, by kernel_rfl, by kernel_rfl⟩
@[simp] abbrev Fu : Nat := 258
def BX : ACode := .seq (.reg [.o 9 (.bin .lss 0) [.t 8, .t 7]]) <| .seq (.cond (.t 9) ( .skip) ( .exit 0)) <| .seq (.block 1 ( .seq (.reg [.m 10 8, .m 5 10]) <| .seq (.reg [.m 11 1, .m 12 0, .m 13 5, .o 14 (.iadr 1) [.t 12, .t 13], .l 15 14, .o 16 (.bin .eql 0) [.t 11, .t 15]]) <| .cond (.t 16) ( .seq (.reg [.m 17 5, .m 4 17]) <| .ret) ( .skip))) <| .reg [.o 18 (.bin .add 0) [.t 8, .k 1], .m 8 18]
def Fv : ACode := .seq (.reg [.o 4 .mv [.k 0]]) <| .seq (.seq (.reg [.m 6 0, .n 7 6, .o 8 .mv [.k 0]]) <| .block 0 ( .loop [(0, 1)] [0, 1, 7, 8] BX)) <| .seq (.reg [.o 4 .mv [.k (-1)]]) <| .ret
theorem LW : cFn Tryz.prog Fu 19 [.t 4] Fv := ⟨Tryz.f258, _, Tryz.func258, rfl, by kernel_rfl, by kernel_rfl, by kernel_rfl, by kernel_rfl⟩
@[simp] abbrev LC : Nat := 130
abbrev CA : Plan := .al (.o 14 (.call 183 []) [.t 12, .t 13]) ( .take (.o 15 (.bin .mul 0) [.k 2, .t 14]) <| .take (.o 16 (.bin .sub 0) [.t 8, .t 15]) <| .take (.m 2 16) <| .done)
abbrev C7 : Plan := .al (.o 8 (.call 109 []) [.t 7]) CA
abbrev Hy : Plan := .alt (.o 8 (.call 109 []) [.t 7]) ( .al (.o 13 (.bsl 1) [.k 1, .k 2]) CA) <| .al (.o 13 (.bsl 1) [.k 1, .k 2]) C7
abbrev Hz : Plan := .alt (.o 8 (.call 109 []) [.t 7]) ( .al (.l 12 11) CA) <| .al (.l 12 11) C7
def LD : ACode := .seq (.reg [.o 2 .mv [.k 0]]) <| .seq (.draw ( .take (.m 3 0) <| .take (.o 4 .nilck [.t 3]) <| .take (.f 5 0 4) <| .take (.f 6 2 5) <| .take (.m 9 0) <| .take (.o 10 .nilck [.t 9]) <| .take (.f 11 4 10) <| .alt (.l 7 6) ( .alt (.o 8 (.call 109 []) [.t 7]) ( .alt (.l 12 11) ( .al (.o 13 (.bsl 1) [.k 1, .k 2]) CA) <| .al (.o 13 (.bsl 1) [.k 1, .k 2]) ( .al (.l 12 11) CA)) <| .alt (.l 12 11) Hy <| .al (.o 13 (.bsl 1) [.k 1, .k 2]) Hz) <| .alt (.l 12 11) ( .alt (.l 7 6) Hy <| .al (.o 13 (.bsl 1) [.k 1, .k 2]) ( .al (.l 7 6) C7)) <| .al (.o 13 (.bsl 1) [.k 1, .k 2]) ( .alt (.l 7 6) Hz <| .al (.l 12 11) ( .al (.l 7 6) C7)))) <| .ret
theorem Rg : cFn Tryz.prog LC 17 [.t 2] LD := ⟨Tryz.f130, _, Tryz.func130, rfl, by kernel_rfl, by kernel_rfl, by kernel_rfl, by kernel_rfl⟩
@[simp] abbrev LE : Nat := 79
abbrev CB : Plan := .al (.o 13 (.call 144 []) [.t 10, .t 12]) ( .take (.o 14 (.bin .mul 0) [.k 2, .t 13]) <| .take (.o 15 (.bin .sub 0) [.t 8, .t 14]) <| .take (.m 2 15) <| .done)
abbrev C8 : Plan := .al (.o 8 (.call 147 []) [.t 7]) CB
abbrev H3 : Plan := .alt (.o 8 (.call 147 []) [.t 7]) ( .al (.la 10 3 9) CB) <| .al (.la 10 3 9) C8
abbrev H4 : Plan := .alt (.o 8 (.call 147 []) [.t 7]) ( .al (.l 12 11) CB) <| .al (.l 12 11) C8
def LF : ACode := .seq (.reg [.o 1 .box [.t 0], .o 2 .mv [.k 0]]) <| .seq (.seq (.reg [.la 3 6 1, .o 4 (.call 18 []) [.t 3], .o 5 (.un .not) [.t 4]]) <| .cond (.t 5) ( .seq (.reg [.o 2 .mv [.k (-1)]]) <| .ret) ( .skip)) <| .seq (.draw ( .take (.f 6 0 1) <| .take (.f 9 0 1) <| .take (.f 11 4 1) <| .alt (.la 7 3 6) ( .alt (.o 8 (.call 147 []) [.t 7]) ( .alt (.la 10 3 9) ( .al (.l 12 11) CB) <| .al (.l 12 11) ( .al (.la 10 3 9) CB)) <| .alt (.la 10 3 9) H4 <| .al (.l 12 11) H3) <| .alt (.la 10 3 9) ( .alt (.la 7 3 6) H4 <| .al (.l 12 11) ( .al (.la 7 3 6) C8)) <| .al (.l 12 11) ( .alt (.la 7 3 6) H3 <| .al (.la 10 3 9) ( .al (.la 7 3 6) C8)))) <| .ret
theorem Rh : cFn Tryz.prog LE 16 [.t 2] LF := ⟨Tryz.f79, _, Tryz.func79, rfl, by kernel_rfl, by kernel_rfl, by kernel_rfl, by kernel_rfl⟩
end Go.Proofs.Dev
