/- Contracts of the functions of the program over slots and rows, each proved against the program itself; no condition beyond those that each theorem names. -/
import Derived.Test.YtfkmfobbgoflgaaGreatDoorAN
import Derived.Test.YtfkmfobbgoflgaaGreatDoorAL
import Derived.Test.YtfkmfobbgoflgaaGreatDoorProg
import Derived.Test.YtfkmfobbgoflgaaGreatDoorAK
set_option linter.unusedSimpArgs false
set_option linter.unusedVariables false
set_option maxRecDepth 100000
namespace Go.Proofs.Dev
def Fg (ls : List Int) (ps : List (List Int)) : List (List Int) := (ps ++ [ls]).drop (ps.length + 1 - 20)
abbrev doF (W T : Int) (cs : List Bool) (ds n : List Int) (ps : List (List Int)) := Fin [RV.t 4] 90 2 [true, false] (.v (.bool true)) [Nr W T cs ds n ps, .bot]
theorem bN (ls : List Int) (ps : List (List Int)) (d : Nat) (hd : d = ps.length + 1 - 20) : (oss ps).drop d ++ [.os 1 (AC ls)] = oss (Fg ls ps) := by
 have hd2 : d ≤ ps.length := by omega
 unfold Fg
 rw [← hd, List.drop_append_of_le_length hd2, Nq, Wy]
 simp [oss]
set_option maxHeartbeats 8000000 in
theorem pF (W T : Int) (cs : List Bool) (ds ls n : List Int) (ps : List (List Int)) (kind spot way : Int) (us : List Value) (hp : ps.length ≤ 100) (hn : n.length ≤ 100) (hus : us.length = ps.length) (hok : ∀ u ∈ us, u.oneCell' = true)
  (hclone : ∀ us : List Value, us.length < 2 ^ 40 → (∀ u ∈ us, u.oneCell' = true) → SoundAt Tryz.prog 135 [.sl 1 1 (KS us)] (.os 1 (KS us)) [.bot]) (E : ES)
  (e0 : get E 0 = .lp 0 0 0 0) (e6 : get E 6 = .ls 1 6 0 n.length) (e8 : get E 8 = .ls 1 10 0 (ps.length + 1)) (e90 : get E 90 = .lp 0 0 0 0) (e91 : get E 91 = LK kind spot way) :
  Lg (awp Tryz.prog mdo Gd (doF W T cs ds n (Fg ls ps))) E
   [some (.box [.v (.int .i64 W), .v (.int .i64 T), .ls 1 1 0 cs.length, .ls 1 2 0 ds.length, .ls 1 3 0 ls.length, .ls 1 4 0 ps.length]),
    some (.arr 1 (AD cs)), some (.arr 1 (AC ds)), none, some (.arr 1 (us.map AV.v)),
    some (.box [.v (.int .i64 kind), .v (.int .i64 spot), .v (.int .i64 way)]), some (.arr 1 (AC n)), some (.pool us (oss ps)), none, none,
    some (.arr 1 (us.map AV.v ++ [.os 1 (AC ls)]))] := by
 refine Lg.takeAll 10 _ rfl (oneE_append.2 ⟨TL us, by intro e he; simp at he; subst he; rfl⟩) ?_
 intro us2 hus2 hok2
 have hl2 : us2.length = ps.length + 1 := by rw [hus2]; simp [hus]
 simp [PS]
 refine Lg.done ?_
 obtain ⟨d, hd⟩ : ∃ d : Nat, d = ps.length + 1 - 20 := ⟨_, rfl⟩
 have hm : (if (20 : Int) < ps.length + 1 then (ps.length : Int) + 1 - 20 else 0) = d := by split <;> omega
 have hd2 : d ≤ ps.length := by omega
 have hd3 : d ≤ ps.length + 1 := by omega
 have hone2 : ∀ u ∈ us2.drop d, u.oneCell' = true := by
  intro u hu
  refine hok2 ?_ u (List.mem_of_mem_drop hu)
  have h1 : ∀ us : List Value, (∀ u ∈ us, u.oneCell' = true) → okL (us.map AV.v ++ [.os 1 (AC ls)]) = true := by
   intro us
   induction us with
   | nil => intro _; simp [okL, okE]
   | cons u us ih =>
     intro h
     show (okE (.v u) && okL (us.map AV.v ++ [.os 1 (AC ls)])) = true
     have h2 : okE (.v u) = true := h u (by simp)
     rw [h2, ih fun x hx => h x (by simp [hx])]
     rfl
  exact h1 us hok
 have clone := hclone (us2.drop d) (by simp; omega) hone2
 have hw1 : ((us2.map AV.v).drop d).take (ps.length + 1 - d) = KS (us2.drop d) := by
  rw [← List.map_drop]
  exact List.take_of_length_le (by simp; omega)
 have hlen : (us2.drop d).length = ps.length + 1 - d := by simp [hl2]
 simp [Gd, AO, e0, e6, e8, e90, e91, hm, hd3]
 refine ⟨by omega, ?_⟩
 refine AA clone ?_
 have hle : d + (ps.length + 1 - d) ≤ us2.length := by omega
 simp [hw1, Tt, AO, e0, e6, e8, e90, e91, hlen, hle]
 refine Lg.split 11 d us2 _ rfl ?_
 have s1 : (us.map AV.v ++ [AV.os 1 (AC ls)]).drop d = (us.drop d).map AV.v ++ [.os 1 (AC ls)] := by
  rw [List.drop_append_of_le_length (by simp; omega), List.map_drop]
 simp only [Xk, s1]
 simp
 refine Lg.implode 12 13 (us2.drop d) [] [] ((us.drop d).map AV.v ++ [.os 1 (AC ls)]) (by simp [KS]) (by simp) (by omega) (by intro e he; cases he) (by intro e he; cases he) (oneE_append.2 ⟨TL _, by intro e he; simp at he; subst he; rfl⟩) ?_
 simp [PT]
 refine Lg.split 7 d us (oss ps) rfl ?_
 simp [Xk]
 refine Lg.implode 12 14 (us.drop d) [] [.os 1 (AC ls)] ((oss ps).drop d) (by simp) (by simp) (by omega) (by intro e he; cases he) (by intro e he; simp at he; subst he; rfl) (fun e he => Sy ps e (List.mem_of_mem_drop he)) ?_
 simp [PT]
 rw [bN ls ps d hd]
 refine Lg.done ?_
 have htq : (AC n).take n.length = AC n := AG n
 have hbl : (Fg ls ps).length = ps.length + 1 - d := by unfold Fg; rw [← hd]; simp
 have htb : (oss (Fg ls ps)).take (ps.length + 1 - d) = oss (Fg ls ps) := List.take_of_length_le (by simp [oss, hbl])
 simp [AO, e0, e6, e8, e90, e91, htq, hbl, htb]
set_option maxHeartbeats 8000000 in
theorem pG (W T : Int) (cs : List Bool) (ds ls n : List Int) (ps : List (List Int)) (kind spot way : Int) (hp : ps.length ≤ 100) (hls : ls.length ≤ 100) (hn : n.length ≤ 100)
  (hclone : ∀ us : List Value, us.length < 2 ^ 40 → (∀ u ∈ us, u.oneCell' = true) → SoundAt Tryz.prog 135 [.sl 1 1 (KS us)] (.os 1 (KS us)) [.bot]) (E : ES)
  (e0 : get E 0 = .lp 0 0 0 0) (e6 : get E 6 = .ls 1 6 0 n.length) (e90 : get E 90 = .lp 0 0 0 0) (e91 : get E 91 = LK kind spot way) :
  Lg (awp Tryz.prog mdo Ge (doF W T cs ds n (Fg ls ps))) E
   [some (.box [.v (.int .i64 W), .v (.int .i64 T), .ls 1 1 0 cs.length, .ls 1 2 0 ds.length, .ls 1 3 0 ls.length, .ls 1 4 0 ps.length]),
    some (.arr 1 (AD cs)), some (.arr 1 (AC ds)), some (.arr 1 (AC ls)), some (.arr 1 (oss ps)),
    some (.box [.v (.int .i64 kind), .v (.int .i64 spot), .v (.int .i64 way)]), some (.arr 1 (AC n))] := by
 refine Lg.takeAll 4 _ rfl (Sy ps) ?_
 intro us hus hok
 have hl : us.length = ps.length := by rw [hus]; simp [oss]
 have hone : ∀ u ∈ us, u.oneCell' = true := hok (Wz ps)
 have clone := hclone us (by omega) hone
 have htk : (us.map AV.v).take ps.length = KS us := by rw [← hl]; exact List.take_of_length_le (by simp)
 have hokr : okL (KS us) = true := by
  clear hok hus clone htk hl
  induction us with
  | nil => rfl
  | cons u us ih =>
    have h2 : okE (.v u) = true := hone u (by simp)
    show (okE (.v u) && okL (KS us)) = true
    rw [h2, ih fun x hx => hone x (by simp [hx])]
    rfl
 simp [PS]
 refine Lg.done ?_
 simp [Ge, AO, e0, e6, e90, e91]
 (repeat' first | omega | apply And.intro) <;>
 ·refine AA clone ?_
  simp [htk, Tt, AO, e0, e6, e90, e91, hl]
  exact ⟨by omega, pF W T cs ds ls n ps kind spot way us hp hn hl hone hclone _ (by simp [AO, e0]) (by simp [AO, e6]) (by simp) (by simp [AO, e90]) (by simp [AO, e91])⟩
set_option maxHeartbeats 8000000 in
theorem W0 (k : cFn Tryz.prog BT 90 [.t 4] BE) (W T : Int) (cs : List Bool) (ds ls n : List Int) (ps : List (List Int)) (kind spot way : Int) (b fb : Bool)
  (hp : ps.length ≤ 100) (hkind : kind ≠ 4) (hls : ls.length ≤ 100) (hn : n.length ≤ 100)
  (hneeds : SoundAt Tryz.prog 62 [LK kind spot way] (.v (.bool true)) [.bot])
  (hby : SoundAt Tryz.prog 136 [.vp 1 [.v (.int .i64 W), .v (.int .i64 T), .sl 1 1 (AD cs), .sl 1 1 (AC ds), .sl 1 1 (AC ls), .sl 1 1 (sls 1 ps)] 0, LK kind spot way] (.tup [.os 1 (AC n), .v (.bool b)]) [.bot, .bot])
  (hfair : SoundAt Tryz.prog 137 [.agg [.v (.int .i64 W), .v (.int .i64 T), .sl 1 1 (AD cs)], .sl 1 1 (AC ds), .sl 1 1 (AC n)] (.v (.bool fb)) [.bot, .bot, .bot])
  (hclone : ∀ us : List Value, us.length < 2 ^ 40 → (∀ u ∈ us, u.oneCell' = true) → SoundAt Tryz.prog 135 [.sl 1 1 (KS us)] (.os 1 (KS us)) [.bot]) :
  SoundAt Tryz.prog BT [Nr W T cs ds ls ps, LK kind spot way] (.v (.bool (b && fb))) [if (b && fb) = true then Nr W T cs ds n (Fg ls ps) else Nr W T cs ds ls ps, .bot] := by
 refine AJ (md := mdo) (ms := [true, false]) k (by simp) ?_
 have htl : (AC ls).take ls.length = AC ls := AG ls
 have hto : (oss ps).take ps.length = oss ps := List.take_of_length_le (by simp [oss])
 cases b with
 | false =>
   simp [BE]
   refine AA hneeds ?_
   simp [hkind, Cs]
   refine AA hby ?_
   simp [htl, hto]
 | true =>
 cases fb with
 | false =>
   simp [BE]
   refine AA hneeds ?_
   simp [hkind, Cs]
   refine AA hby ?_
   simp
   (repeat' first | omega | apply And.intro) <;>
   ·refine AA hfair ?_
    simp [htl, hto]
 | true =>
   simp [BE]
   refine AA hneeds ?_
   simp [hkind, Cs]
   refine AA hby ?_
   simp
   (repeat' first | omega | apply And.intro) <;>
   ·refine AA hfair ?_
    simp
    exact pG W T cs ds ls n ps kind spot way hp hls hn hclone _ rfl rfl rfl rfl
def Ki (named : Bool) (kind : Int) (ls : List Int) (ps : List (List Int)) (n : List Int) (b : Bool) : Bool × List Int × List (List Int) :=
 if named = false then (false, ls, ps) else
 if kind = 4 then (match ps.getLast? with | some q => (true, q, ps.dropLast) | none => (false, ls, ps)) else
 if b then (true, n, Fg ls ps) else (false, ls, ps)
theorem dP (k : cFn Tryz.prog BT 90 [.t 4] BE) (W T : Int) (cs : List Bool) (ds ls n : List Int) (ps : List (List Int)) (kind spot way : Int) (named b fb : Bool)
  (hp : ps.length ≤ 100) (hls : ls.length ≤ 100) (hn : n.length ≤ 100)
  (hneeds : SoundAt Tryz.prog 62 [LK kind spot way] (.v (.bool named)) [.bot])
  (hby : named = true → kind ≠ 4 → SoundAt Tryz.prog 136 [.vp 1 [.v (.int .i64 W), .v (.int .i64 T), .sl 1 1 (AD cs), .sl 1 1 (AC ds), .sl 1 1 (AC ls), .sl 1 1 (sls 1 ps)] 0, LK kind spot way] (.tup [.os 1 (AC n), .v (.bool b)]) [.bot, .bot])
  (hfair : named = true → kind ≠ 4 → SoundAt Tryz.prog 137 [.agg [.v (.int .i64 W), .v (.int .i64 T), .sl 1 1 (AD cs)], .sl 1 1 (AC ds), .sl 1 1 (AC n)] (.v (.bool fb)) [.bot, .bot, .bot])
  (hclone : ∀ us : List Value, us.length < 2 ^ 40 → (∀ u ∈ us, u.oneCell' = true) → SoundAt Tryz.prog 135 [.sl 1 1 (KS us)] (.os 1 (KS us)) [.bot]) :
  SoundAt Tryz.prog BT [Nr W T cs ds ls ps, LK kind spot way] (.v (.bool (Ki named kind ls ps n (b && fb)).1))
   [Nr W T cs ds (Ki named kind ls ps n (b && fb)).2.1 (Ki named kind ls ps n (b && fb)).2.2, .bot] := by
 have htl : (AC ls).take ls.length = AC ls := AG ls
 have hto : (oss ps).take ps.length = oss ps := List.take_of_length_le (by simp [oss])
 cases named with
 | false =>
   refine AJ (md := mdo) (ms := [true, false]) k (by simp) ?_
   simp [BE, Ki]
   refine AA hneeds ?_
   simp [htl, hto]
 | true =>
 by_cases hk : kind = 4
 ·subst hk
  rcases List.eq_nil_or_concat ps with rfl | ⟨qs, q, h⟩
  ·refine AJ (md := mdo) (ms := [true, false]) k (by simp) ?_
   simp [BE, Ki]
   refine AA hneeds ?_
   simp [htl, hto]
  ·rw [List.concat_eq_append] at h
   subst h
   have e : Ki true 4 ls (qs ++ [q]) n (b && fb) = (true, q, qs) := by simp [Ki]
   rw [e]
   exact U4 k W T cs ds ls q qs spot way (by simp at hp; omega) hneeds hclone
 ·have h := W0 k W T cs ds ls n ps kind spot way b fb hp hk hls hn hneeds (hby rfl hk) (hfair rfl hk) hclone
  cases hb : (b && fb) with
  | false =>
    rw [hb] at h
    have e : Ki true kind ls ps n false = (false, ls, ps) := by simp [Ki, hk]
    rw [e]; simpa using h
  | true =>
    rw [hb] at h
    have e : Ki true kind ls ps n true = (true, n, Fg ls ps) := by simp [Ki, hk]
    rw [e]; simpa using h
def SK (kind : Int) (n0 n1 n2 n3 : List Int) (b0 b1 b2 b3 : Bool) : List Int × Bool :=
 if kind = 0 then (n0, b0) else if kind = 1 then (n1, b1) else if kind = 2 then (n2, b2) else if kind = 3 then (n3, b3) else ([], false)
set_option maxHeartbeats 8000000 in
theorem W1 (k : cFn Tryz.prog Ff 72 [.t 4, .t 5] BF) (W T : Int) (cs : List Bool) (ds ls n0 n1 n2 n3 : List Int) (ps : List (List Int)) (kind spot way : Int) (b0 b1 b2 e3 : Bool)
  (h0 : SoundAt Tryz.prog 190 [.agg [.v (.int .i64 W), .v (.int .i64 T), .sl 1 1 (AD cs)], .sl 1 1 (AC ls), .v (.int .i64 spot), .v (.int .i64 way)] (.tup [.os 1 (AC n0), .v (.bool b0)]) [.bot, .bot, .bot, .bot])
  (h1 : SoundAt Tryz.prog 191 [.agg [.v (.int .i64 W), .v (.int .i64 T), .sl 1 1 (AD cs)], .sl 1 1 (AC ls), .v (.int .i64 spot)] (.tup [.os 1 (AC n1), .v (.bool b1)]) [.bot, .bot, .bot])
  (h2 : SoundAt Tryz.prog 192 [.agg [.v (.int .i64 W), .v (.int .i64 T), .sl 1 1 (AD cs)], .sl 1 1 (AC ls), .v (.int .i64 spot)] (.tup [.os 1 (AC n2), .v (.bool b2)]) [.bot, .bot, .bot])
  (h3 : SoundAt Tryz.prog 193 [.agg [.v (.int .i64 W), .v (.int .i64 T), .sl 1 1 (AD cs)], .sl 1 1 (AC ds), .sl 1 1 (AC ls)] (.os 1 (AC n3)) [.bot, .bot, .bot])
  (h4 : SoundAt Tryz.prog 194 [.sl 1 1 (AC n3), .sl 1 1 (AC ls)] (.v (.bool e3)) [.bot, .bot]) :
  SoundAt Tryz.prog Ff [.vp 1 [.v (.int .i64 W), .v (.int .i64 T), .sl 1 1 (AD cs), .sl 1 1 (AC ds), .sl 1 1 (AC ls), .sl 1 1 (sls 1 ps)] 0, LK kind spot way]
   (.tup [.os 1 (AC (SK kind n0 n1 n2 n3 b0 b1 b2 (!e3)).1), .v (.bool (SK kind n0 n1 n2 n3 b0 b1 b2 (!e3)).2)]) [.bot, .bot] := by
 have t0 : (AC n0).take n0.length = AC n0 := AG n0
 have t1 : (AC n1).take n1.length = AC n1 := AG n1
 have t2 : (AC n2).take n2.length = AC n2 := AG n2
 have t3 : (AC n3).take n3.length = AC n3 := AG n3
 refine AJ (md := mdo) (ms := [false, false]) k (by simp) ?_
 by_cases hk0 : kind = 0
 ·simp [BF, hk0, SK]
  (repeat' first | omega | apply And.intro) <;>
  ·refine AA h0 ?_
   simp [t0]
 by_cases hk1 : kind = 1
 ·subst hk1
  simp [BF, SK]
  (repeat' first | omega | apply And.intro) <;>
  ·refine AA h1 ?_
   simp [t1]
 by_cases hk2 : kind = 2
 ·subst hk2
  simp [BF, SK]
  (repeat' first | omega | apply And.intro) <;>
  ·refine AA h2 ?_
   simp [t2]
 by_cases hk3 : kind = 3
 ·subst hk3
  simp [BF, SK]
  (repeat' first | omega | apply And.intro) <;>
  ·refine AA h3 ?_
   simp
   (repeat' first | omega | apply And.intro) <;>
   ·refine AA h4 ?_
    simp [t3]
 ·simp [BF, hk0, hk1, hk2, hk3, SK]
@[simp] abbrev Kj : Nat := 166
def Eg : ACode := .seq (.seq (.reg [.m 23 8, .m 24 1, .n 25 24, .o 26 (.bin .lss 0) [.t 23, .t 25]]) <| .cond (.t 26) ( .skip) ( .exit 0)) <| .seq (.block 1 ( .reg [.m 29 7, .o 30 (.bsl 1) [.k (-1)], .o 31 (.app 1 8 true) [.t 29, .t 30], .m 7 31])) <| .reg [.m 27 8, .o 28 (.bin .add 0) [.t 27, .k 1], .m 8 28]
def Eh : ACode := .seq (.seq (.reg [.m 52 10, .m 53 11, .o 54 (.bin .sub 0) [.k 6, .t 53], .o 55 (.bin .gtr 0) [.t 52, .t 54]]) <| .cond (.t 55) ( .skip) ( .exit 4)) <| .block 5 ( .seq (.reg [.m 56 10, .m 57 11, .o 58 (.bin .sub 0) [.k 6, .t 57], .o 59 (.bin .add 0) [.t 58, .k 1], .o 60 (.bin .sub 0) [.t 56, .t 59], .m 10 60]) <| .reg [.m 61 11, .o 62 (.bin .add 0) [.t 61, .k 1], .m 11 62])
abbrev GH : Plan := .al (.o 74 (.call 169 []) [.t 68, .t 69, .t 73]) ( .take (.o 78 (.iadr 1) [.t 67, .t 74]) <| .al (.s (.store 1) [.t 78, .t 77]) ( .done))
def IX : ACode := .draw ( .take (.m 67 7) <| .take (.m 69 9) <| .take (.m 70 1) <| .take (.m 71 9) <| .take (.o 72 (.iadr 1) [.t 70, .t 71]) <| .take (.m 75 11) <| .take (.m 76 10) <| .take (.o 77 (.bin .add 0) [.t 75, .t 76]) <| .alt (.la 68 3 3) ( .al (.l 73 72) GH) <| .al (.l 73 72) ( .al (.la 68 3 3) GH))
def Cg : ACode := .seq (.seq (.reg [.m 32 9, .m 33 1, .n 34 33, .o 35 (.bin .lss 0) [.t 32, .t 34]]) <| .cond (.t 35) ( .skip) ( .exit 2)) <| .seq (.block 3 ( .seq (.reg [.m 38 1, .m 39 9, .o 40 (.iadr 1) [.t 38, .t 39], .l 41 40, .o 42 (.bin .eql 0) [.t 41, .k 1], .m 43 42, .mg 44 1 43 false, .mg 45 9 43 false, .g 46 (.iadr 1) [.t 44, .t 45] 43 false, .lg 47 46 43 false, .g 48 (.bin .eql 0) [.t 47, .k 2] 43 false, .o 49 .pick [.t 43, .kb true, .t 48]]) <| .cond (.t 49) ( .seq (.reg [.m 50 2, .o 51 (.bin .rem 0) [.t 50, .k 28], .m 10 51]) <| .seq (.reg [.o 11 .mv [.k 0]]) <| .seq (.block 4 ( .loop [(1, 1), (7, 1)] [1, 2, 3, 7, 9, 10, 11] Eh)) <| .seq (.reg [.m 63 7, .m 64 9, .m 65 11, .o 66 (.iadr 1) [.t 63, .t 64], .s (.store 1) [.t 66, .t 65]]) <| .seq IX <| .reg [.m 79 2, .o 80 (.bin .add 0) [.t 79, .k 1], .m 2 80]) ( .skip))) <| .reg [.m 36 9, .o 37 (.bin .add 0) [.t 36, .k 1], .m 9 37]
def Kk : ACode := .seq (.reg [.o 3 .box [.t 0], .o 6 .mv [.c (.os 1 [])]]) <| .seq (.seq (.reg [.la 12 3 3, .m 13 1, .o 14 (.call 204 []) [.t 12, .t 13], .o 15 (.un .not) [.t 14], .m 16 15, .mg 17 2 16 false, .g 18 (.call 106 []) [.t 17, .k 0, .k 27] 16 false, .g 19 (.un .not) [.t 18] 16 false, .o 20 .pick [.t 16, .kb true, .t 19]]) <| .cond (.t 20) ( .seq (.reg [.o 21 (.bsl 1) [], .m 6 21]) <| .ret) ( .skip)) <| .seq (.reg [.o 22 (.bsl 1) [], .m 7 22]) <| .seq (.seq (.reg [.o 8 .mv [.k 0]]) <| .block 0 ( .loop [(1, 1), (7, 1)] [1, 2, 3, 7, 8] Eg)) <| .seq (.seq (.reg [.o 9 .mv [.k 0]]) <| .block 2 ( .loop [(1, 1), (7, 1)] [1, 2, 3, 7, 9] Cg)) <| .seq (.reg [.m 81 7, .m 6 81]) <| .ret
theorem RF : cFn Tryz.prog Kj 82 [.t 6] Kk := ⟨Tryz.f166, _, Tryz.func166, rfl, by kernel_rfl, by kernel_rfl, by kernel_rfl, by kernel_rfl⟩
@[simp] abbrev QG : Nat := 179
def QH : ACode := .seq (.reg [.o 2 .box [.t 0], .o 4 .mv [.kb false]]) <| .seq (.reg [.la 5 3 2, .o 6 (.call 108 []) [.t 5], .m 7 6, .g 8 (.load true 3) [.t 2] 7 true, .mg 9 1 7 true, .g 10 (.call 154 []) [.t 8, .t 9] 7 true, .o 11 .pick [.t 7, .t 10, .kb false], .m 4 11]) <| .ret
theorem W4 : cFn Tryz.prog QG 12 [.t 4] QH := ⟨Tryz.f179, _, Tryz.func179, rfl, by kernel_rfl, by kernel_rfl, by kernel_rfl, by kernel_rfl⟩
@[simp] abbrev Aa : Nat := 53
def BG : ACode := .seq (.reg [.o 2 .mv [.c (.os 3 [])]]) <| .seq (.reg [.m 3 0, .m 4 0, .n 5 4, .m 6 0, .n 7 6, .o 8 (.slice 3 false false true true) [.t 3, .t 5, .t 7], .m 2 8]) <| .ret
theorem CQ : cFn Tryz.prog Aa 9 [.t 2] BG := ⟨Tryz.f53, _, Tryz.func53, rfl, by kernel_rfl, by kernel_rfl, by kernel_rfl, by kernel_rfl⟩
@[simp] abbrev AX : Nat := 178
def GI : ACode := .seq (.reg [.o 2 .mv [.kb false]]) <| .seq (.reg [.m 3 0, .o 4 (.bin .eql 0) [.t 3, .k 1], .m 5 4, .mg 6 0 5 false, .g 7 (.bin .eql 0) [.t 6, .k 2] 5 false, .o 8 .pick [.t 5, .kb true, .t 7], .m 2 8]) <| .ret
theorem MR : cFn Tryz.prog AX 9 [.t 2] GI := ⟨Tryz.f178, _, Tryz.func178, rfl, by kernel_rfl, by kernel_rfl, by kernel_rfl, by kernel_rfl⟩
@[simp] abbrev Hg : Nat := 127
def C8 : ACode := .seq (.reg [.o 37 (.bin .lss 0) [.t 36, .t 35]]) <| .seq (.cond (.t 37) ( .skip) ( .exit 0)) <| .seq (.block 1 ( .seq (.reg [.m 38 36, .o 39 (.iadr 1) [.t 34, .t 36], .l 40 39, .m 7 38, .m 8 40]) <| .seq (.reg [.m 41 6, .m 42 8, .o 43 (.callv []) [.t 41, .t 42], .m 44 43, .mg 45 3 44 true, .mg 46 7 44 true, .g 47 (.iadr 1) [.t 45, .t 46] 44 true, .lg 48 47 44 true, .mg 49 8 44 true, .g 50 (.bin .neq 0) [.t 48, .t 49] 44 true, .o 51 .pick [.t 44, .t 50, .kb false]]) <| .cond (.t 51) ( .reg [.m 52 5, .m 53 7, .o 54 (.build dz [(0, 1), (1, 1), (2, 1)]) [.k 1, .t 53, .k 0], .o 55 (.bsl 3) [.t 54], .o 56 (.app 3 24 true) [.t 52, .t 55], .m 5 56]) ( .skip))) <| .reg [.o 57 (.bin .add 0) [.t 36, .k 1], .m 36 57]
def C9 : ACode := .seq (.reg [.o 61 (.bin .lss 0) [.t 60, .t 59]]) <| .seq (.cond (.t 61) ( .skip) ( .exit 2)) <| .seq (.block 3 ( .seq (.reg [.m 62 60, .o 63 (.iadr 1) [.t 58, .t 60], .l 64 63, .m 9 62, .m 10 64]) <| .seq (.reg [.m 65 6, .m 66 10, .o 67 (.callv []) [.t 65, .t 66], .m 68 67, .mg 69 0 68 true, .g 70 .nilck [.t 69] 68 true, .fg 71 4 70 68 true, .lg 72 71 68 true, .mg 73 9 68 true, .g 74 (.iadr 1) [.t 72, .t 73] 68 true, .lg 75 74 68 true, .mg 76 10 68 true, .g 77 (.bin .neq 0) [.t 75, .t 76] 68 true, .o 78 .pick [.t 68, .t 77, .kb false]]) <| .cond (.t 78) ( .reg [.m 79 5, .m 80 9, .m 81 10, .o 82 (.build dz [(0, 1), (1, 1), (2, 1)]) [.k 0, .t 80, .t 81], .o 83 (.bsl 3) [.t 82], .o 84 (.app 3 24 true) [.t 79, .t 83], .m 5 84]) ( .skip))) <| .reg [.o 85 (.bin .add 0) [.t 60, .k 1], .m 60 85]
def Bu : ACode := .seq (.seq (.reg [.m 29 4, .o 30 (.un .not) [.t 29]]) <| .cond (.t 30) ( .seq (.reg [.o 2 .mv [.c (.os 3 [])]]) <| .ret) ( .skip)) <| .seq (.reg [.o 5 .mv [.c (.os 3 [])]]) <| .seq (.reg [.o 6 .mv [.f 178]]) <| .seq (.seq (.reg [.m 31 0, .o 32 .nilck [.t 31], .f 33 4 32, .l 34 33, .n 35 34, .o 36 .mv [.k 0]]) <| .block 0 ( .loop [(3, 1), (5, 3), (34, 1)] [0, 3, 5, 6, 34, 35, 36] C8)) <| .seq (.seq (.reg [.m 58 3, .n 59 58, .o 60 .mv [.k 0]]) <| .block 2 ( .loop [(5, 3), (58, 1)] [0, 5, 6, 58, 59, 60] C9)) <| .seq (.reg [.m 86 5, .o 87 (.call 53 []) [.t 86], .m 2 87]) <| .ret
abbrev Ab : Plan := .al (.o 26 (.call 177 []) [.t 15, .t 19, .t 25]) ( .take (.m 11 26) <| .take (.e 27 0 11) <| .take (.e 28 1 11) <| .take (.m 3 27) <| .take (.m 4 28) <| .done)
abbrev Bv : Plan := .al (.o 25 (.mksl 1 8 (.v (.int .i64 (0)))) [.t 24, .t 24]) Ab
abbrev Fh : Plan := .al (.l 23 22) ( .take (.n 24 23) <| .al (.o 25 (.mksl 1 8 (.v (.int .i64 (0)))) [.t 24, .t 24]) Ab)
def Hh : ACode := .seq (.reg [.o 2 .mv [.c (.os 3 [])]]) <| .seq (.draw ( .take (.m 12 0) <| .take (.o 13 .nilck [.t 12]) <| .take (.f 14 0 13) <| .take (.m 16 0) <| .take (.o 17 .nilck [.t 16]) <| .take (.f 18 3 17) <| .take (.m 20 0) <| .take (.o 21 .nilck [.t 20]) <| .take (.f 22 3 21) <| .alt (.la 15 3 14) ( .alt (.l 19 18) Fh <| .al (.l 23 22) ( .take (.n 24 23) <| .alt (.l 19 18) Bv <| .al (.o 25 (.mksl 1 8 (.v (.int .i64 (0)))) [.t 24, .t 24]) ( .al (.l 19 18) Ab))) <| .alt (.l 19 18) ( .alt (.la 15 3 14) Fh <| .al (.l 23 22) ( .take (.n 24 23) <| .alt (.la 15 3 14) Bv <| .al (.o 25 (.mksl 1 8 (.v (.int .i64 (0)))) [.t 24, .t 24]) ( .al (.la 15 3 14) Ab))) <| .al (.l 23 22) ( .take (.n 24 23) <| .alt (.la 15 3 14) ( .alt (.l 19 18) Bv <| .al (.o 25 (.mksl 1 8 (.v (.int .i64 (0)))) [.t 24, .t 24]) ( .al (.l 19 18) Ab)) <| .alt (.l 19 18) ( .alt (.la 15 3 14) Bv <| .al (.o 25 (.mksl 1 8 (.v (.int .i64 (0)))) [.t 24, .t 24]) ( .al (.la 15 3 14) Ab)) <| .al (.o 25 (.mksl 1 8 (.v (.int .i64 (0)))) [.t 24, .t 24]) ( .alt (.la 15 3 14) ( .al (.l 19 18) Ab) <| .al (.l 19 18) ( .al (.la 15 3 14) Ab))))) <| .gc [] [0, 3, 4] Bu
theorem Nz : cFn Tryz.prog Hg 88 [.t 2] Hh := ⟨Tryz.f127, _, Tryz.func127, rfl, by kernel_rfl, by kernel_rfl, by kernel_rfl, by kernel_rfl⟩
@[simp] def md3 (f : Nat) : List Bool := if f = 999999 then [true, false] else if f = Aa then [true] else md0 f
def Ag (d : Int × Int × Int) : AV := .agg [.v (.int .i64 d.1), .v (.int .i64 d.2.1), .v (.int .i64 d.2.2)]
def dsA (xs : List (Int × Int × Int)) : List AV := xs.map Ag
@[simp] theorem V0 (xs : List (Int × Int × Int)) : (dsA xs).length = xs.length := by simp [dsA]
@[simp] theorem pH : dsA [] = [] := rfl
theorem Ns (a b : List (Int × Int × Int)) : dsA (a ++ b) = dsA a ++ dsA b := by simp [dsA]
theorem dQ {xs : List (Int × Int × Int)} {i : Nat} (h : i < xs.length) : (dsA xs)[i]? = some (Ag xs[i]) := by simp [dsA, h]
@[simp] theorem oV {xs : List (Int × Int × Int)} {i : Nat} (h : i < (dsA xs).length) : (dsA xs)[i] = Ag (xs[i]'(by simpa using h)) := by simp [dsA]
def bO (d : Int × Int × Int) : List AV := [.v (.int .i64 d.1), .v (.int .i64 d.2.1), .v (.int .i64 d.2.2)]
theorem QI {c : Nat} {k : IntKind} {xs : List (Int × Int × Int)} {i : Nat} (h : i < xs.length) : DN 3 (.sl c 3 (dsA xs)) (.v (.int k (i : Int))) = some (.vp c (bO xs[i]) 0) := by
 rw [f7 (dQ h)]; rfl
theorem W5 {xs : List (Int × Int × Int)} {i : Nat} (h : i < xs.length) : (dsA xs)[i]? = some (.agg [.v (.int .i64 xs[i].1), .v (.int .i64 xs[i].2.1), .v (.int .i64 xs[i].2.2)]) := dQ h
theorem QJ (xs : List (Int × Int × Int)) : SoundAt Tryz.prog Aa [.os 3 (dsA xs)] (.os 3 (dsA xs)) [.bot] := by
 refine AJ (md := md3) (ms := [false]) CQ (by simp) ?_
 simp [BG]
 exact List.take_of_length_le (by simp)
theorem GJ (w : Int) : SoundAt Tryz.prog AX [.v (.int .i64 w)] (.v (.bool (decide (w = 1 ∨ w = 2)))) [.bot] := by
 refine AJ (md := md3) (ms := [false]) MR (by simp) ?_
 by_cases h1 : w = 1 <;> by_cases h2 : w = 2 <;> simp [GI, h1, h2]
abbrev Tu := Int × Int × Int
def Fi (f : List Int → List (List Int) → Tu → Bool × List Int × List (List Int)) : List Int → List (List Int) → List Tu → List Int × List (List Int) × Nat
 | ls, ps, [] => (ls, ps, 0)
 | ls, ps, d :: xs => let r := f ls ps d; let q := Fi f r.2.1 r.2.2 xs; (q.1, q.2.1, q.2.2 + if r.1 then 1 else 0)
theorem LL (f : List Int → List (List Int) → Tu → Bool × List Int × List (List Int)) : ∀ (xs : List Tu) (ls : List Int) (ps : List (List Int)) (d : Tu),
  Fi f ls ps (xs ++ [d]) = (let q := Fi f ls ps xs; let r := f q.1 q.2.1 d; (r.2.1, r.2.2, q.2.2 + if r.1 then 1 else 0))
 | [], ls, ps, d => by simp only [List.nil_append, Fi, Nat.zero_add]; rfl
 | x :: xs, ls, ps, d => by
   rw [List.cons_append, Fi, Fi]
   simp only [LL f xs]
   simp only [Nat.add_right_comm]
set_option maxHeartbeats 8000000 in
theorem U5 (k : cFn Tryz.prog Gu 34 [.c 4 true 6, .t 5] Es) (W T : Int) (cs : List Bool) (ds ls : List Int) (ps : List (List Int)) (xs : List Tu) (ok : Bool)
  (hx : xs.length < 2 ^ 40) (f : List Int → List (List Int) → Tu → Bool × List Int × List (List Int)) (I : List Int → List (List Int) → Prop) (D : Tu → Prop) (hD : ∀ d ∈ xs, D d)
  (hv : SoundAt Tryz.prog 38 [bkA W T cs ds ls ps] (.v (.bool ok)) [.bot])
  (hcopy : ok = true → SoundAt Tryz.prog 60 [bkA W T cs ds ls ps] (bkO W T cs ds ls ps) [.bot])
  (hI : ok = true → I ls ps) (hstep : ∀ l p d, I l p → I (f l p d).2.1 (f l p d).2.2)
  (hdo : ∀ l p d, I l p → D d → SoundAt Tryz.prog BT [Nr W T cs ds l p, Ag d] (.v (.bool (f l p d).1)) [Nr W T cs ds (f l p d).2.1 (f l p d).2.2, .bot]) :
  SoundAt Tryz.prog Gu [bkA W T cs ds ls ps, .sl 1 3 (dsA xs)]
   (.tup [if (ok && decide (xs.length ≤ 40)) = true then bkO W T cs ds (Fi f ls ps xs).1 (Fi f ls ps xs).2.1 else bkO 0 0 [] [] [] [], .v (.int .i64 (if (ok && decide (xs.length ≤ 40)) = true then ((Fi f ls ps xs).2.2 : Int) else 0))]) [.bot, .bot] := by
 refine AJ (md := mdo) (ms := [false, false]) k (by simp) ?_
 cases ok with
 | false =>
   simp [Es]
   refine AA hv ?_
   simp
 | true =>
 by_cases h40 : xs.length ≤ 40
 case neg =>
  have h41 : (40 : Int) < xs.length := by omega
  simp [Es, h40]
  refine AA hv ?_
  simp [h41]
 have h41 : ¬ (40 : Int) < xs.length := by omega
 have hcopy := hcopy rfl
 have hI := hI rfl
 simp [Es, h40]
 refine AA hv ?_
 simp [h41]
 refine AA hcopy ?_
 simp
 refine AH (fun m E H => ∃ (i : Nat) (l : List Int) (p : List (List Int)) (n : Nat), m = xs.length - i ∧ i ≤ xs.length ∧ Fi f ls ps (xs.take i) = (l, p, n) ∧ n ≤ i ∧ I l p ∧
  E = [(4, .lp 0 0 0 0), (6, .lp 0 1 0 0), (7, .v (.int .i64 n)), (21, .sl 1 3 (dsA xs)), (22, .v (.int .i64 xs.length)), (23, .v (.int .i64 i))] ∧
  H = [some (.box [.v (.int .i64 0), .v (.int .i64 0), .os 1 [], .os 1 [], .os 1 [], .os 1 []]),
    some (.box [.v (.int .i64 W), .v (.int .i64 T), .ls 1 2 0 cs.length, .ls 1 3 0 ds.length, .ls 1 4 0 l.length, .ls 1 5 0 p.length]),
    some (.arr 1 (AD cs)), some (.arr 1 (AC ds)), some (.arr 1 (AC l)), some (.arr 1 (oss p))]) xs.length ⟨0, ls, ps, 0, by simp, by omega, by simp [Fi], by omega, hI, by simp, by simp⟩ ?_
 rintro J hJ m E H ⟨i, l, p, n, rfl, hi, hr, hn, hIl, rfl, rfl⟩
 have htl : (AC l).take l.length = AC l := AG l
 have hto : (oss p).take p.length = oss p := List.take_of_length_le (by simp [oss])
 by_cases h : i < xs.length
 ·have hd := hdo l p xs[i] hIl (hD _ (List.getElem_mem h))
  have hI2 := hstep l p xs[i] hIl
  have hr2 : Fi f ls ps (xs.take (i + 1)) = ((f l p xs[i]).2.1, (f l p xs[i]).2.2, n + if (f l p xs[i]).1 then 1 else 0) := by
   rw [List.take_succ_eq_append_getElem h, LL, hr]
  generalize f l p xs[i] = r at *
  obtain ⟨b, l2, p2⟩ := r
  have htl2 : (AC l2).take l2.length = AC l2 := AG l2
  have hto2 : (oss p2).take p2.length = oss p2 := List.take_of_length_le (by simp [oss])
  simp only at hd hI2 hr2
  simp [Gf, h, QI, bO]
  refine AA hd ?_
  cases b with
  | false =>
    simp [Ag]
    exact ⟨by omega, _, by omega, hJ _ _ _ ⟨i + 1, l2, p2, n, rfl, h, by rw [hr2]; rfl, by omega, hI2, by simp, by simp⟩⟩
  | true =>
    simp [Ag]
    exact ⟨by omega, by omega, _, by omega, hJ _ _ _ ⟨i + 1, l2, p2, n + 1, rfl, h, by rw [hr2]; rfl, by omega, hI2, by simp, by simp⟩⟩
 ·have : i = xs.length := by omega
  subst this
  rw [List.take_length] at hr
  simp [Gf, hr, htl, hto]
def U6 (W T : Int) (cs : List Bool) (ds : List Int) (ps : List (List Int)) : Bool := Vp ps.length (fun k => Ah W T cs ds (pti ps k))
def Bw (W T : Int) (cs : List Bool) (ds ls : List Int) (ps : List (List Int)) : Bool := (Ah W T cs ds ls && decide (ps.length ≤ 20)) && U6 W T cs ds ps
theorem HT (W T : Int) (cs : List Bool) (ds ls : List Int) (ps : List (List Int)) (hc : cs.length < 2 ^ 40) (hd : ds.length < 2 ^ 40) (hl : ls.length < 2 ^ 40) (hb : ps.length < 2 ^ 40) (hp : ∀ p ∈ ps, p.length < 2 ^ 40) :
  SoundAt Tryz.prog HR [bkA W T cs ds ls ps] (.v (.bool (Bw W T cs ds ls ps))) [.bot] := by
 refine AJ (md := md0) (ms := [false]) SI (by simp) ?_
 simp [Ll]
 refine AH (fun m E H => ∃ i : Nat, m = ps.length - i ∧ i ≤ ps.length ∧ Vp i (fun k => Ah W T cs ds (pti ps k)) = true ∧ H = [some (.box [.v (.int .i64 W), .v (.int .i64 T), .sl 1 1 (AD cs), .sl 1 1 (AC ds), .sl 1 1 (AC ls), .sl 1 1 (sls 1 ps)])] ∧ E = [(1, .lp 0 0 0 0), (3, .v (.int .i64 i))]) ps.length ⟨0, by simp [IB]⟩ ?_
 rintro J hJ m E H ⟨i, rfl, hi, ha, rfl, rfl⟩
 by_cases h : i < ps.length
 case neg =>
  have : i = ps.length := by omega
  subst this
  simp [E6]
  refine AA (C3 W T cs ds ls hc hd hl) ?_
  simp [Bw, U6, ha]
  cases Ah W T cs ds ls <;> simp
  omega
 have one := C3 W T cs ds (pti ps i) hc hd (hp _ (ZF h))
 have hno : Ah W T cs ds (pti ps i) = false → Bw W T cs ds ls ps = false := by
  intro hf
  have : U6 W T cs ds ps = false := GY h hf
  simp [Bw, this]
 simp [E6, h]
 (repeat' first | assumption | omega | apply And.intro) <;>
 ·refine AA one ?_
  cases hf : Ah W T cs ds (pti ps i) with
  | false => simp [hno hf]
  | true =>
    simp
    exact ⟨by omega, _, by omega, hJ _ _ _ ⟨i + 1, rfl, h, by rw [IC, ha, hf]; rfl, rfl, rfl⟩⟩
theorem QK (W T : Int) (cs : List Bool) (ds ls : List Int) (ps : List (List Int)) (p : List Int) (hc : cs.length < 2 ^ 40) (hd : ds.length < 2 ^ 40) (hp : p.length < 2 ^ 40) :
  SoundAt Tryz.prog Jd [.sl 1 1 (AC p), .vp 1 [.v (.int .i64 W), .v (.int .i64 T), .sl 1 1 (AD cs), .sl 1 1 (AC ds), .sl 1 1 (AC ls), .sl 1 1 (sls 1 ps)] 0] (.v (.bool (!Ah W T cs ds p))) [.bot, .bot] := by
 refine AJ (md := md0) (ms := [false, false]) QF (by simp) ?_
 simp [Je]
 refine AA (Hy W T cs ds p hc hd hp) ?_
 simp
@[simp] def bkP (W T : Int) (cs : List Bool) (ds ls : List Int) (ps : List (List Int)) : AV := .vp 1 [.v (.int .i64 W), .v (.int .i64 T), .sl 1 1 (AD cs), .sl 1 1 (AC ds), .sl 1 1 (AC ls), .sl 1 1 (sls 1 ps)] 0
def RG (W T : Int) (cs : List Bool) (ds : List Int) (ps : List (List Int)) : Int := D6 (fun k => !Ah W T cs ds (pti ps k)) ps.length
theorem QL (W T : Int) (cs : List Bool) (ds ls : List Int) (ps qs : List (List Int)) (hc : cs.length < 2 ^ 40) (hd : ds.length < 2 ^ 40) (hb : ps.length < 2 ^ 40) (hp : ∀ p ∈ ps, p.length < 2 ^ 40) :
  SoundAt Tryz.prog EZ [.sl 1 1 (sls 1 ps), .fn 100 [bkP W T cs ds ls qs]] (.v (.int .i64 (RG W T cs ds ps))) [.bot, .bot] := by
 refine AJ (md := md0) (ms := [false, false]) JA (by simp) ?_
 simp [Ea]
 refine AH (fun m E H => ∃ i : Nat, m = ps.length - i ∧ i ≤ ps.length ∧ (∀ k : Nat, k < i → (!Ah W T cs ds (pti ps k)) = false) ∧ H = [] ∧ E = [(0, .sl 1 1 (sls 1 ps)), (1, .fn 100 [bkP W T cs ds ls qs]), (7, .v (.int .i64 ps.length)), (8, .v (.int .i64 i))]) ps.length ⟨0, by simp⟩ ?_
 rintro J hJ m E H ⟨i, rfl, hi, ha, rfl, rfl⟩
 by_cases h : i < ps.length
 case neg =>
  have : i = ps.length := by omega
  subst this
  have e : RG W T cs ds ps = -1 := C6 ha
  simp [Bl, e]
 have one := QK W T cs ds ls qs (pti ps i) hc hd (hp _ (ZF h))
 simp [Bl, h]
 refine ⟨by kernel_rfl, ?_⟩
 refine AA one ?_
 cases hf : Ah W T cs ds (pti ps i) with
 | false =>
   have e : RG W T cs ds ps = i := DT h (by simp [hf]) ha
   simp [e]
 | true =>
   simp
   refine ⟨by omega, _, by omega, hJ _ _ _ ⟨i + 1, rfl, h, ?_, rfl, rfl⟩⟩
   intro k hk
   rcases Nat.lt_or_ge k i with h1 | h1
   ·exact ha k h1
   ·have : k = i := by omega
    subst this; simp [hf]
theorem My (W T : Int) (cs : List Bool) (ds ls : List Int) (ps qs : List (List Int)) (hc : cs.length < 2 ^ 40) (hd : ds.length < 2 ^ 40) (hb : ps.length < 2 ^ 40) (hp : ∀ p ∈ ps, p.length < 2 ^ 40) :
  SoundAt Tryz.prog DP [.sl 1 1 (sls 1 ps), .fn 100 [bkP W T cs ds ls qs]] (.v (.bool (!U6 W T cs ds ps))) [.bot, .bot] := by
 refine AJ (md := md0) (ms := [false, false]) HS (by simp) ?_
 simp [DQ]
 refine AA (QL W T cs ds ls ps qs hc hd hb hp) ?_
 have e : decide (0 ≤ RG W T cs ds ps) = !U6 W T cs ds ps := by
  cases hpb : U6 W T cs ds ps with
  | true =>
    have h2 : RG W T cs ds ps = -1 := C6 fun k hk => by
     have := (CI _ _).1 hpb k hk
     simp [this]
    rw [h2]; rfl
  | false =>
    rcases Mv (fun k => !Ah W T cs ds (pti ps k)) ps.length with h2 | ⟨k, hk, hx, h2⟩
    ·exfalso
     have : U6 W T cs ds ps = true := by
      rw [U6, CI]
      intro k hk
      cases hx : Ah W T cs ds (pti ps k) with
      | true => rfl
      | false =>
        exfalso
        have hm : ∃ x ∈ List.range ps.length, (!Ah W T cs ds (pti ps x)) = true := ⟨k, by simpa using hk, by simp [hx]⟩
        have hs := List.find?_isSome.2 hm
        unfold D6 at h2
        split at h2
        ·omega
        ·rename_i h9; rw [h9] at hs; cases hs
     rw [this] at hpb; cases hpb
    ·have h3 : RG W T cs ds ps = k := h2
     rw [h3]; simp
 simp [e]
theorem Lp (W T : Int) (cs : List Bool) (ds ls : List Int) (ps : List (List Int)) (hc : cs.length < 2 ^ 40) (hd : ds.length < 2 ^ 40) (hl : ls.length < 2 ^ 40) (hb : ps.length < 2 ^ 40) (hp : ∀ p ∈ ps, p.length < 2 ^ 40) :
  SoundAt Tryz.prog Lm [bkA W T cs ds ls ps] (.v (.bool (Bw W T cs ds ls ps))) [.bot] := by
 refine AJ (md := md0) (ms := [false]) SJ (by simp) ?_
 simp [Ln]
 refine AA (Hy W T cs ds ls hc hd hl) ?_
 cases hf : Ah W T cs ds ls with
 | false => simp [Bw, hf]
 | true =>
 by_cases h20 : ps.length ≤ 20
 case neg =>
  have h20' : ¬ (ps.length : Int) ≤ 20 := by omega
  simp [Bw, hf, h20, h20']
 have h20' : (ps.length : Int) ≤ 20 := by omega
 simp [h20']
 refine AA (My W T cs ds ls ps ps hc hd hb hp) ?_
 simp [Bw, hf, h20]
theorem V1 {W T : Int} {cs : List Bool} {ds ls : List Int} {ps : List (List Int)} (h : Bw W T cs ds ls ps = true) : Ah W T cs ds ls = true := by
 simp only [Bw, Bool.and_eq_true] at h; exact h.1.1
@[simp] abbrev Lq : Nat := 147
def Lr : ACode := .seq (.reg [.o 1 .box [.t 0], .o 2 .mv [.k 0]]) <| .seq (.seq (.reg [.la 3 3 1, .o 4 (.call 168 []) [.t 3], .o 5 (.un .not) [.t 4]]) <| .cond (.t 5) ( .seq (.reg [.o 2 .mv [.k (-1)]]) <| .ret) ( .skip)) <| .seq (.reg [.f 6 2 1, .l 7 6, .o 8 (.call 203 []) [.t 7], .m 2 8]) <| .ret
theorem SL : cFn Tryz.prog Lq 9 [.t 2] Lr := ⟨Tryz.f147, _, Tryz.func147, rfl, by kernel_rfl, by kernel_rfl, by kernel_rfl, by kernel_rfl⟩
@[simp] abbrev Mz : Nat := 144
def CR : ACode := .seq (.seq (.reg [.m 11 6, .m 12 1, .n 13 12, .o 14 (.bin .lss 0) [.t 11, .t 13]]) <| .cond (.t 14) ( .skip) ( .exit 0)) <| .seq (.block 1 ( .seq (.reg [.m 17 1, .m 18 6, .o 19 (.iadr 1) [.t 17, .t 18], .l 20 19, .o 21 (.bin .eql 0) [.t 20, .k 1], .m 22 21, .mg 23 1 22 false, .mg 24 6 22 false, .g 25 (.iadr 1) [.t 23, .t 24] 22 false, .lg 26 25 22 false, .g 27 (.bin .eql 0) [.t 26, .k 2] 22 false, .o 28 .pick [.t 22, .kb true, .t 27]]) <| .cond (.t 28) ( .reg [.m 29 5, .o 30 (.bin .add 0) [.t 29, .k 1], .m 5 30]) ( .skip))) <| .reg [.m 15 6, .o 16 (.bin .add 0) [.t 15, .k 1], .m 6 16]
def M0 : ACode := .seq (.reg [.o 2 .box [.t 0], .o 4 .mv [.k 0]]) <| .seq (.seq (.reg [.la 7 3 2, .m 8 1, .o 9 (.call 122 []) [.t 7, .t 8], .o 10 (.un .not) [.t 9]]) <| .cond (.t 10) ( .seq (.reg [.o 4 .mv [.k (-1)]]) <| .ret) ( .skip)) <| .seq (.reg [.o 5 .mv [.k 0]]) <| .seq (.seq (.reg [.o 6 .mv [.k 0]]) <| .block 0 ( .loop [(1, 1)] [1, 5, 6] CR)) <| .seq (.reg [.m 31 5, .m 4 31]) <| .ret
theorem Tv : cFn Tryz.prog Mz 32 [.t 4] M0 := ⟨Tryz.f144, _, Tryz.func144, rfl, by kernel_rfl, by kernel_rfl, by kernel_rfl, by kernel_rfl⟩
@[simp] abbrev Tw : Nat := 183
def KC : ACode := .seq (.reg [.o 11 (.bin .lss 0) [.t 10, .t 9]]) <| .seq (.cond (.t 11) ( .skip) ( .exit 0)) <| .seq (.block 1 ( .seq (.reg [.o 12 (.iadr 1) [.t 8, .t 10], .l 13 12, .m 7 13]) <| .seq (.reg [.m 14 1, .m 15 7, .o 16 (.call 227 []) [.t 14, .t 15]]) <| .cond (.t 16) ( .reg [.m 17 5, .o 18 (.bin .add 0) [.t 17, .k 1], .m 5 18]) ( .skip))) <| .reg [.o 19 (.bin .add 0) [.t 10, .k 1], .m 10 19]
def Tx : ACode := .seq (.reg [.o 4 .mv [.k 0]]) <| .seq (.reg [.o 5 .mv [.k 0]]) <| .seq (.seq (.reg [.m 8 0, .n 9 8, .o 10 .mv [.k 0]]) <| .block 0 ( .loop [(1, 1), (8, 1)] [1, 5, 8, 9, 10] KC)) <| .seq (.reg [.m 20 5, .m 4 20]) <| .ret
theorem ZG : cFn Tryz.prog Tw 21 [.t 4] Tx := ⟨Tryz.f183, _, Tryz.func183, rfl, by kernel_rfl, by kernel_rfl, by kernel_rfl, by kernel_rfl⟩
@[simp] abbrev Et : Nat := 227
def Eu : ACode := .seq (.reg [.o 4 .mv [.kb false]]) <| .seq (.reg [.m 5 0, .m 6 1, .o 7 (.call 258 []) [.t 5, .t 6], .o 8 (.bin .geq 0) [.t 7, .k 0], .m 4 8]) <| .ret
theorem KD : cFn Tryz.prog Et 9 [.t 4] Eu := ⟨Tryz.f227, _, Tryz.func227, rfl, by kernel_rfl, by kernel_rfl, by kernel_rfl, by kernel_rfl⟩
@[simp] abbrev GK : Nat := 258
def BU : ACode := .seq (.reg [.o 9 (.bin .lss 0) [.t 8, .t 7]]) <| .seq (.cond (.t 9) ( .skip) ( .exit 0)) <| .seq (.block 1 ( .seq (.reg [.m 10 8, .m 5 10]) <| .seq (.reg [.m 11 1, .m 12 0, .m 13 5, .o 14 (.iadr 1) [.t 12, .t 13], .l 15 14, .o 16 (.bin .eql 0) [.t 11, .t 15]]) <| .cond (.t 16) ( .seq (.reg [.m 17 5, .m 4 17]) <| .ret) ( .skip))) <| .reg [.o 18 (.bin .add 0) [.t 8, .k 1], .m 8 18]
def GL : ACode := .seq (.reg [.o 4 .mv [.k 0]]) <| .seq (.seq (.reg [.m 6 0, .n 7 6, .o 8 .mv [.k 0]]) <| .block 0 ( .loop [(0, 1)] [0, 1, 7, 8] BU)) <| .seq (.reg [.o 4 .mv [.k (-1)]]) <| .ret
theorem MS : cFn Tryz.prog GK 19 [.t 4] GL := ⟨Tryz.f258, _, Tryz.func258, rfl, by kernel_rfl, by kernel_rfl, by kernel_rfl, by kernel_rfl⟩
@[simp] abbrev Ls : Nat := 130
abbrev CA : Plan := .al (.o 14 (.call 183 []) [.t 12, .t 13]) ( .take (.o 15 (.bin .mul 0) [.k 2, .t 14]) <| .take (.o 16 (.bin .sub 0) [.t 8, .t 15]) <| .take (.m 2 16) <| .done)
abbrev DA : Plan := .al (.o 8 (.call 109 []) [.t 7]) CA
abbrev IY : Plan := .alt (.o 8 (.call 109 []) [.t 7]) ( .al (.o 13 (.bsl 1) [.k 1, .k 2]) CA) <| .al (.o 13 (.bsl 1) [.k 1, .k 2]) DA
abbrev IZ : Plan := .alt (.o 8 (.call 109 []) [.t 7]) ( .al (.l 12 11) CA) <| .al (.l 12 11) DA
def Lt : ACode := .seq (.reg [.o 2 .mv [.k 0]]) <| .seq (.draw ( .take (.m 3 0) <| .take (.o 4 .nilck [.t 3]) <| .take (.f 5 0 4) <| .take (.f 6 2 5) <| .take (.m 9 0) <| .take (.o 10 .nilck [.t 9]) <| .take (.f 11 4 10) <| .alt (.l 7 6) ( .alt (.o 8 (.call 109 []) [.t 7]) ( .alt (.l 12 11) ( .al (.o 13 (.bsl 1) [.k 1, .k 2]) CA) <| .al (.o 13 (.bsl 1) [.k 1, .k 2]) ( .al (.l 12 11) CA)) <| .alt (.l 12 11) IY <| .al (.o 13 (.bsl 1) [.k 1, .k 2]) IZ) <| .alt (.l 12 11) ( .alt (.l 7 6) IY <| .al (.o 13 (.bsl 1) [.k 1, .k 2]) ( .al (.l 7 6) DA)) <| .al (.o 13 (.bsl 1) [.k 1, .k 2]) ( .alt (.l 7 6) IZ <| .al (.l 12 11) ( .al (.l 7 6) DA)))) <| .ret
theorem SM : cFn Tryz.prog Ls 17 [.t 2] Lt := ⟨Tryz.f130, _, Tryz.func130, rfl, by kernel_rfl, by kernel_rfl, by kernel_rfl, by kernel_rfl⟩
def MT (x : Int) : Bool := decide (x = 1) || decide (x = 2)
def Kl (ls : List Int) : Nat := ls.countP MT
theorem Ty {ls : List Int} {i : Nat} (h : i < ls.length) : Kl (ls.take (i + 1)) = Kl (ls.take i) + (if MT (ati ls i) then 1 else 0) := by
 have e : ati ls i = ls[i] := by simp [ati, h]
 rw [e, List.take_succ_eq_append_getElem h, Kl, List.countP_append, List.countP_singleton]
 rfl
theorem ZH (ls : List Int) : Kl ls ≤ ls.length := List.countP_le_length
theorem SN (W T : Int) (cs : List Bool) (hb : cs.length < 2 ^ 40) :
  SoundAt Tryz.prog Lq [.agg [.v (.int .i64 W), .v (.int .i64 T), .sl 1 1 (AD cs)]] (.v (.int .i64 (if A3 W T cs then BH cs else -1))) [.bot] := by
 refine AJ (md := md0) (ms := [false]) SL (by simp) ?_
 simp [Lr]
 refine AA (An W T cs hb) ?_
 cases hr : A3 W T cs with
 | false => simp
 | true =>
 simp
 refine AA (OB cs hb) ?_
 simp
theorem M1 (W T : Int) (cs : List Bool) (ls : List Int) (hb : cs.length < 2 ^ 40) (hl : ls.length < 2 ^ 40) :
  SoundAt Tryz.prog Mz [.agg [.v (.int .i64 W), .v (.int .i64 T), .sl 1 1 (AD cs)], .sl 1 1 (AC ls)] (.v (.int .i64 (if A3 W T cs && AU W T cs ls then (Kl ls : Int) else -1))) [.bot, .bot] := by
 refine AJ (md := md0) (ms := [false, false]) Tv (by simp) ?_
 simp [M0]
 refine AA (Br W T cs ls hb hl) ?_
 cases hr : (A3 W T cs && AU W T cs ls) with
 | false =>
   have : ¬ (A3 W T cs = true ∧ AU W T cs ls = true) := by simpa using hr
   simp [this]
 | true =>
 have : A3 W T cs = true ∧ AU W T cs ls = true := by simpa using hr
 simp [this]
 refine AH (fun m E H => ∃ i : Nat, m = ls.length - i ∧ i ≤ ls.length ∧ H = [] ∧ E = [(1, .sl 1 1 (AC ls)), (5, .v (.int .i64 (Kl (ls.take i)))), (6, .v (.int .i64 i))]) ls.length ⟨0, by simp [Kl]⟩ ?_
 rintro J hJ m E H ⟨i, rfl, hi, rfl, rfl⟩
 by_cases h : i < ls.length
 case neg =>
  have : i = ls.length := by omega
  subst this
  simp [CR]
 have hs := Ty h
 have hle : Kl (ls.take i) ≤ i := by have := ZH (ls.take i); simp at this; omega
 have next : ∀ v : Int, v = Kl (ls.take (i + 1)) → Cx J (ls.length - i) [(1, .sl 1 1 (AC ls)), (5, .v (.int .i64 v)), (6, .v (.int .i64 (i + 1)))] [] := by
  rintro v rfl
  exact ⟨_, by omega, hJ _ _ _ ⟨i + 1, rfl, h, rfl, rfl⟩⟩
 by_cases e1 : ati ls i = 1
 ·simp [MT, e1] at hs
  simp [CR, h, e1]
  exact ⟨by omega, by omega, next _ (by omega)⟩
 by_cases e2 : ati ls i = 2
 ·simp [MT, e2] at hs
  simp [CR, h, e1, e2]
  exact ⟨by omega, by omega, next _ (by omega)⟩
 ·simp [MT, e1, e2] at hs
  simp [CR, h, e1, e2]
  exact ⟨by omega, next _ (by omega)⟩
theorem U7 (xs : List Int) (x : Int) (hl : xs.length < 2 ^ 40) :
  SoundAt Tryz.prog GK [.sl 1 1 (AC xs), .v (.int .i64 x)] (.v (.int .i64 (D6 (fun k => decide (x = ati xs k)) xs.length))) [.bot, .bot] := by
 refine AJ (md := md0) (ms := [false, false]) MS (by simp) ?_
 simp [GL]
 refine AH (fun m E H => ∃ i : Nat, m = xs.length - i ∧ i ≤ xs.length ∧ (∀ k : Nat, k < i → decide (x = ati xs k) = false) ∧ H = [] ∧ E = [(0, .sl 1 1 (AC xs)), (1, .v (.int .i64 x)), (7, .v (.int .i64 xs.length)), (8, .v (.int .i64 i))]) xs.length ⟨0, by simp⟩ ?_
 rintro J hJ m E H ⟨i, rfl, hi, ha, rfl, rfl⟩
 by_cases h : i < xs.length
 case neg =>
  have : i = xs.length := by omega
  subst this
  have e : D6 (fun k => decide (x = ati xs k)) xs.length = -1 := C6 ha
  simp [BU, e]
 by_cases hx : x = ati xs i
 ·have e : D6 (fun k => decide (x = ati xs k)) xs.length = i := DT h (decide_eq_true hx) ha
  simp [BU, h, e]
  exact fun n => absurd hx n
 ·simp [BU, h, hx]
  refine ⟨by omega, _, by omega, hJ _ _ _ ⟨i + 1, rfl, h, ?_, rfl, rfl⟩⟩
  intro k hk
  rcases Nat.lt_or_ge k i with h1 | h1
  ·exact ha k h1
  ·have : k = i := by omega
   subst this; exact decide_eq_false hx
theorem O1 (x : Int) :
  SoundAt Tryz.prog Et [.sl 1 1 (AC [1, 2]), .v (.int .i64 x)] (.v (.bool (MT x))) [.bot, .bot] := by
 refine AJ (md := md0) (ms := [false, false]) KD (by simp) ?_
 simp [Eu]
 refine AA (U7 [1, 2] x (by simp)) ?_
 have e : decide (0 ≤ D6 (fun k : Nat => decide (x = ati [1, 2] k)) 2) = MT x := by
  by_cases h1 : x = 1
  ·rw [DT (k := 0) (by omega) (by simp [h1, ati]) (by omega)]; simp [MT, h1]
  ·by_cases h2 : x = 2
   ·have h0 : ∀ j : Nat, j < 1 → decide (x = ati [1, 2] j) = false := by
     intro j hj
     have : j = 0 := by omega
     subst this
     simp [ati, h1]
    rw [DT (k := 1) (by omega) (by simp [h2, ati]) h0]
    simp [MT, h2]
   ·have h0 : ∀ j : Nat, j < 2 → decide (x = ati [1, 2] j) = false := by
     intro j hj
     have : j = 0 ∨ j = 1 := by omega
     rcases this with rfl | rfl <;> simp [ati, h1, h2]
    rw [C6 h0]
    simp [MT, h1, h2]
 simp [e]
theorem W6 (ls : List Int) (hl : ls.length < 2 ^ 40) :
  SoundAt Tryz.prog Tw [.sl 1 1 (AC ls), .sl 1 1 (AC [1, 2])] (.v (.int .i64 (Kl ls))) [.bot, .bot] := by
 refine AJ (md := md0) (ms := [false, false]) ZG (by simp) ?_
 simp [Tx]
 refine AH (fun m E H => ∃ i : Nat, m = ls.length - i ∧ i ≤ ls.length ∧ H = [] ∧ E = [(1, .sl 1 1 (AC [1, 2])), (5, .v (.int .i64 (Kl (ls.take i)))), (8, .sl 1 1 (AC ls)), (9, .v (.int .i64 ls.length)), (10, .v (.int .i64 i))]) ls.length ⟨0, by simp [Kl]⟩ ?_
 rintro J hJ m E H ⟨i, rfl, hi, rfl, rfl⟩
 by_cases h : i < ls.length
 case neg =>
  have : i = ls.length := by omega
  subst this
  simp [KC]
 have hs := Ty h
 have hle : Kl (ls.take i) ≤ i := by have := ZH (ls.take i); simp at this; omega
 have next : ∀ v : Int, v = Kl (ls.take (i + 1)) → Cx J (ls.length - i) [(1, .sl 1 1 (AC [1, 2])), (5, .v (.int .i64 v)), (8, .sl 1 1 (AC ls)), (9, .v (.int .i64 ls.length)), (10, .v (.int .i64 (i + 1)))] [] := by
  rintro v rfl
  exact ⟨_, by omega, hJ _ _ _ ⟨i + 1, rfl, h, rfl, rfl⟩⟩
 simp [KC, h]
 refine AA (O1 (ati ls i)) ?_
 cases hd : MT (ati ls i) with
 | true =>
   simp [hd] at hs
   simp
   exact ⟨by omega, by omega, next _ (by omega)⟩
 | false =>
   simp [hd] at hs
   simp
   exact ⟨by omega, next _ (by omega)⟩
theorem SO (W T : Int) (cs : List Bool) (ds ls : List Int) (ps : List (List Int)) (hc : cs.length < 2 ^ 40) (hl : ls.length < 2 ^ 40) :
  SoundAt Tryz.prog Ls [bkP W T cs ds ls ps] (.v (.int .i64 (BH cs - 2 * Kl ls))) [.bot] := by
 refine AJ (md := md0) (ms := [false]) SM (by simp) ?_
 have h1 := Mh cs
 have h2 := ZH ls
 have one := Ow cs hc
 have two := W6 ls hl
 have ei : AC [1, 2] = [.v (.int .i64 1), .v (.int .i64 2)] := rfl
 rw [ei] at two
 simp [Lt, bp]
 (repeat' first | assumption | omega | apply And.intro)
 all_goals first
  | (refine AA one ?_; simp; (repeat' first | assumption | omega | apply And.intro) <;> (refine AA two ?_; simp; (repeat' first | assumption | omega | apply And.intro)))
  | (refine AA two ?_; simp; (repeat' first | assumption | omega | apply And.intro) <;> (refine AA one ?_; simp; (repeat' first | assumption | omega | apply And.intro)))
@[simp] abbrev OG : Nat := 222
def Ct : ACode := .seq (.seq (.reg [.m 6 5, .m 7 1, .n 8 7, .o 9 (.bin .lss 0) [.t 6, .t 8]]) <| .cond (.t 9) ( .skip) ( .exit 0)) <| .seq (.block 1 ( .seq (.reg [.f 12 2 2, .l 13 12, .m 14 5, .o 15 (.iadr 1) [.t 13, .t 14], .l 16 15, .m 17 16, .mg 18 1 17 true, .mg 19 5 17 true, .g 20 (.iadr 1) [.t 18, .t 19] 17 true, .lg 21 20 17 true, .g 22 (.bin .eql 0) [.t 21, .k 0] 17 true, .o 23 .pick [.t 17, .t 22, .kb false]]) <| .cond (.t 23) ( .seq (.reg [.m 24 5, .m 4 24]) <| .ret) ( .skip))) <| .reg [.m 10 5, .o 11 (.bin .add 0) [.t 10, .k 1], .m 5 11]
def OH : ACode := .seq (.reg [.o 2 .box [.t 0], .o 4 .mv [.k 0]]) <| .seq (.seq (.reg [.o 5 .mv [.k 0]]) <| .block 0 ( .loop [(1, 1)] [1, 2, 5] Ct)) <| .seq (.reg [.o 4 .mv [.k (-1)]]) <| .ret
theorem U8 : cFn Tryz.prog OG 25 [.t 4] OH := ⟨Tryz.f222, _, Tryz.func222, rfl, by kernel_rfl, by kernel_rfl, by kernel_rfl, by kernel_rfl⟩
@[simp] abbrev M2 : Nat := 146
def M3 : ACode := .seq (.reg [.o 1 .box [.t 0], .o 2 .mv [.c (.os 1 [])]]) <| .seq (.seq (.reg [.la 3 3 1, .o 4 (.call 168 []) [.t 3], .o 5 (.un .not) [.t 4]]) <| .cond (.t 5) ( .seq (.reg [.o 6 (.bsl 1) [], .m 2 6]) <| .ret) ( .skip)) <| .seq (.reg [.f 7 2 1, .l 8 7, .n 9 8, .o 10 (.mksl 1 8 (.v (.int .i64 (0)))) [.t 9, .t 9], .m 2 10]) <| .ret
theorem Tz : cFn Tryz.prog M2 11 [.t 2] M3 := ⟨Tryz.f146, _, Tryz.func146, rfl, by kernel_rfl, by kernel_rfl, by kernel_rfl, by kernel_rfl⟩
end Go.Proofs.Dev
