/- Contracts of the functions of the program over slots and rows, each proved against the program itself; no condition beyond those that each theorem names. -/
import Derived.Test.YtfkmfobbgoflgaaGreatDoorAN
import Derived.Test.YtfkmfobbgoflgaaGreatDoorAL
import Derived.Test.YtfkmfobbgoflgaaGreatDoorProg
import Derived.Test.YtfkmfobbgoflgaaGreatDoorAK
set_option linter.unusedSimpArgs false
set_option linter.unusedVariables false
set_option maxRecDepth 100000
namespace Go.Proofs.Dev
def Fi (ls : List Int) (ps : List (List Int)) : List (List Int) := (ps ++ [ls]).drop (ps.length + 1 - 20)
abbrev doF (W T : Int) (cs : List Bool) (ds n : List Int) (ps : List (List Int)) := Fin [RV.t 4] 90 2 [true, false] (.v (.bool true)) [OT W T cs ds n ps, .bot]
theorem bO (ls : List Int) (ps : List (List Int)) (d : Nat) (hd : d = ps.length + 1 - 20) : (oss ps).drop d ++ [.os 1 (AB ls)] = oss (Fi ls ps) := by
 have hd2 : d ≤ ps.length := by omega
 unfold Fi
 rw [← hd, List.drop_append_of_le_length hd2, Kd, RZ]
 simp [oss]
set_option maxHeartbeats 8000000 in
theorem nw (W T : Int) (cs : List Bool) (ds ls n : List Int) (ps : List (List Int)) (kind spot way : Int) (us : List Value) (hp : ps.length ≤ 100) (hn : n.length ≤ 100) (hus : us.length = ps.length) (hok : ∀ u ∈ us, u.oneCell' = true)
  (hclone : ∀ us : List Value, us.length < 2 ^ 40 → (∀ u ∈ us, u.oneCell' = true) → SoundAt Tryz.prog 135 [.sl 1 1 (KL us)] (.os 1 (KL us)) [.bot]) (E : ES)
  (e0 : get E 0 = .lp 0 0 0 0) (e6 : get E 6 = .ls 1 6 0 n.length) (e8 : get E 8 = .ls 1 10 0 (ps.length + 1)) (e90 : get E 90 = .lp 0 0 0 0) (e91 : get E 91 = Nv kind spot way) :
  Lg (awp Tryz.prog mdo Gb (doF W T cs ds n (Fi ls ps))) E
   [some (.box [.v (.int .i64 W), .v (.int .i64 T), .ls 1 1 0 cs.length, .ls 1 2 0 ds.length, .ls 1 3 0 ls.length, .ls 1 4 0 ps.length]),
    some (.arr 1 (AC cs)), some (.arr 1 (AB ds)), none, some (.arr 1 (us.map AV.v)),
    some (.box [.v (.int .i64 kind), .v (.int .i64 spot), .v (.int .i64 way)]), some (.arr 1 (AB n)), some (.pool us (oss ps)), none, none,
    some (.arr 1 (us.map AV.v ++ [.os 1 (AB ls)]))] := by
 refine Lg.takeAll 10 _ rfl (oneE_append.2 ⟨TV us, by intro e he; simp at he; subst he; rfl⟩) ?_
 intro us2 hus2 hok2
 have hl2 : us2.length = ps.length + 1 := by rw [hus2]; simp [hus]
 simp [PW]
 refine Lg.done ?_
 obtain ⟨d, hd⟩ : ∃ d : Nat, d = ps.length + 1 - 20 := ⟨_, rfl⟩
 have hm : (if (20 : Int) < ps.length + 1 then (ps.length : Int) + 1 - 20 else 0) = d := by split <;> omega
 have hd2 : d ≤ ps.length := by omega
 have hd3 : d ≤ ps.length + 1 := by omega
 have hone2 : ∀ u ∈ us2.drop d, u.oneCell' = true := by
  intro u hu
  refine hok2 ?_ u (List.mem_of_mem_drop hu)
  have h1 : ∀ us : List Value, (∀ u ∈ us, u.oneCell' = true) → okL (us.map AV.v ++ [.os 1 (AB ls)]) = true := by
   intro us
   induction us with
   | nil => intro _; simp [okL, okE]
   | cons u us ih =>
     intro h
     show (okE (.v u) && okL (us.map AV.v ++ [.os 1 (AB ls)])) = true
     have h2 : okE (.v u) = true := h u (by simp)
     rw [h2, ih fun x hx => h x (by simp [hx])]
     rfl
  exact h1 us hok
 have clone := hclone (us2.drop d) (by simp; omega) hone2
 have hw1 : ((us2.map AV.v).drop d).take (ps.length + 1 - d) = KL (us2.drop d) := by
  rw [← List.map_drop]
  exact List.take_of_length_le (by simp; omega)
 have hlen : (us2.drop d).length = ps.length + 1 - d := by simp [hl2]
 simp [Gb, B6, e0, e6, e8, e90, e91, hm, hd3]
 refine ⟨by omega, ?_⟩
 refine AA clone ?_
 have hle : d + (ps.length + 1 - d) ≤ us2.length := by omega
 simp [hw1, UM, B6, e0, e6, e8, e90, e91, hlen, hle]
 refine Lg.split 11 d us2 _ rfl ?_
 have s1 : (us.map AV.v ++ [AV.os 1 (AB ls)]).drop d = (us.drop d).map AV.v ++ [.os 1 (AB ls)] := by
  rw [List.drop_append_of_le_length (by simp; omega), List.map_drop]
 simp only [Xz, s1]
 simp
 refine Lg.implode 12 13 (us2.drop d) [] [] ((us.drop d).map AV.v ++ [.os 1 (AB ls)]) (by simp [KL]) (by simp) (by omega) (by intro e he; cases he) (by intro e he; cases he) (oneE_append.2 ⟨TV _, by intro e he; simp at he; subst he; rfl⟩) ?_
 simp [PX]
 refine Lg.split 7 d us (oss ps) rfl ?_
 simp [Xz]
 refine Lg.implode 12 14 (us.drop d) [] [.os 1 (AB ls)] ((oss ps).drop d) (by simp) (by simp) (by omega) (by intro e he; cases he) (by intro e he; simp at he; subst he; rfl) (fun e he => TI ps e (List.mem_of_mem_drop he)) ?_
 simp [PX]
 rw [bO ls ps d hd]
 refine Lg.done ?_
 have htq : (AB n).take n.length = AB n := AD n
 have hbl : (Fi ls ps).length = ps.length + 1 - d := by unfold Fi; rw [← hd]; simp
 have htb : (oss (Fi ls ps)).take (ps.length + 1 - d) = oss (Fi ls ps) := List.take_of_length_le (by simp [oss, hbl])
 simp [B6, e0, e6, e8, e90, e91, htq, hbl, htb]
set_option maxHeartbeats 8000000 in
theorem ny (W T : Int) (cs : List Bool) (ds ls n : List Int) (ps : List (List Int)) (kind spot way : Int) (hp : ps.length ≤ 100) (hls : ls.length ≤ 100) (hn : n.length ≤ 100)
  (hclone : ∀ us : List Value, us.length < 2 ^ 40 → (∀ u ∈ us, u.oneCell' = true) → SoundAt Tryz.prog 135 [.sl 1 1 (KL us)] (.os 1 (KL us)) [.bot]) (E : ES)
  (e0 : get E 0 = .lp 0 0 0 0) (e6 : get E 6 = .ls 1 6 0 n.length) (e90 : get E 90 = .lp 0 0 0 0) (e91 : get E 91 = Nv kind spot way) :
  Lg (awp Tryz.prog mdo Gc (doF W T cs ds n (Fi ls ps))) E
   [some (.box [.v (.int .i64 W), .v (.int .i64 T), .ls 1 1 0 cs.length, .ls 1 2 0 ds.length, .ls 1 3 0 ls.length, .ls 1 4 0 ps.length]),
    some (.arr 1 (AC cs)), some (.arr 1 (AB ds)), some (.arr 1 (AB ls)), some (.arr 1 (oss ps)),
    some (.box [.v (.int .i64 kind), .v (.int .i64 spot), .v (.int .i64 way)]), some (.arr 1 (AB n))] := by
 refine Lg.takeAll 4 _ rfl (TI ps) ?_
 intro us hus hok
 have hl : us.length = ps.length := by rw [hus]; simp [oss]
 have hone : ∀ u ∈ us, u.oneCell' = true := hok (XE ps)
 have clone := hclone us (by omega) hone
 have htk : (us.map AV.v).take ps.length = KL us := by rw [← hl]; exact List.take_of_length_le (by simp)
 have hokr : okL (KL us) = true := by
  clear hok hus clone htk hl
  induction us with
  | nil => rfl
  | cons u us ih =>
    have h2 : okE (.v u) = true := hone u (by simp)
    show (okE (.v u) && okL (KL us)) = true
    rw [h2, ih fun x hx => hone x (by simp [hx])]
    rfl
 simp [PW]
 refine Lg.done ?_
 simp [Gc, B6, e0, e6, e90, e91]
 (repeat' first | omega | apply And.intro) <;>
 ·refine AA clone ?_
  simp [htk, UM, B6, e0, e6, e90, e91, hl]
  exact ⟨by omega, nw W T cs ds ls n ps kind spot way us hp hn hl hone hclone _ (by simp [B6, e0]) (by simp [B6, e6]) (by simp) (by simp [B6, e90]) (by simp [B6, e91])⟩
set_option maxHeartbeats 8000000 in
theorem XG (k : cFn Tryz.prog B5 90 [.t 4] BF) (W T : Int) (cs : List Bool) (ds ls n : List Int) (ps : List (List Int)) (kind spot way : Int) (b fb : Bool)
  (hp : ps.length ≤ 100) (hkind : kind ≠ 4) (hls : ls.length ≤ 100) (hn : n.length ≤ 100)
  (hneeds : SoundAt Tryz.prog 62 [Nv kind spot way] (.v (.bool true)) [.bot])
  (hby : SoundAt Tryz.prog 136 [.vp 1 [.v (.int .i64 W), .v (.int .i64 T), .sl 1 1 (AC cs), .sl 1 1 (AB ds), .sl 1 1 (AB ls), .sl 1 1 (sls 1 ps)] 0, Nv kind spot way] (.tup [.os 1 (AB n), .v (.bool b)]) [.bot, .bot])
  (hfair : SoundAt Tryz.prog 137 [.agg [.v (.int .i64 W), .v (.int .i64 T), .sl 1 1 (AC cs)], .sl 1 1 (AB ds), .sl 1 1 (AB n)] (.v (.bool fb)) [.bot, .bot, .bot])
  (hclone : ∀ us : List Value, us.length < 2 ^ 40 → (∀ u ∈ us, u.oneCell' = true) → SoundAt Tryz.prog 135 [.sl 1 1 (KL us)] (.os 1 (KL us)) [.bot]) :
  SoundAt Tryz.prog B5 [OT W T cs ds ls ps, Nv kind spot way] (.v (.bool (b && fb))) [if (b && fb) = true then OT W T cs ds n (Fi ls ps) else OT W T cs ds ls ps, .bot] := by
 refine AE (md := mdo) (ms := [true, false]) k (by simp) ?_
 have htl : (AB ls).take ls.length = AB ls := AD ls
 have hto : (oss ps).take ps.length = oss ps := List.take_of_length_le (by simp [oss])
 cases b with
 | false =>
   simp [BF]
   refine AA hneeds ?_
   simp [hkind, C1]
   refine AA hby ?_
   simp [htl, hto]
 | true =>
 cases fb with
 | false =>
   simp [BF]
   refine AA hneeds ?_
   simp [hkind, C1]
   refine AA hby ?_
   simp
   (repeat' first | omega | apply And.intro) <;>
   ·refine AA hfair ?_
    simp [htl, hto]
 | true =>
   simp [BF]
   refine AA hneeds ?_
   simp [hkind, C1]
   refine AA hby ?_
   simp
   (repeat' first | omega | apply And.intro) <;>
   ·refine AA hfair ?_
    simp
    exact ny W T cs ds ls n ps kind spot way hp hls hn hclone _ rfl rfl rfl rfl
def Kh (named : Bool) (kind : Int) (ls : List Int) (ps : List (List Int)) (n : List Int) (b : Bool) : Bool × List Int × List (List Int) :=
 if named = false then (false, ls, ps) else
 if kind = 4 then (match ps.getLast? with | some q => (true, q, ps.dropLast) | none => (false, ls, ps)) else
 if b then (true, n, Fi ls ps) else (false, ls, ps)
theorem dH (k : cFn Tryz.prog B5 90 [.t 4] BF) (W T : Int) (cs : List Bool) (ds ls n : List Int) (ps : List (List Int)) (kind spot way : Int) (named b fb : Bool)
  (hp : ps.length ≤ 100) (hls : ls.length ≤ 100) (hn : n.length ≤ 100)
  (hneeds : SoundAt Tryz.prog 62 [Nv kind spot way] (.v (.bool named)) [.bot])
  (hby : named = true → kind ≠ 4 → SoundAt Tryz.prog 136 [.vp 1 [.v (.int .i64 W), .v (.int .i64 T), .sl 1 1 (AC cs), .sl 1 1 (AB ds), .sl 1 1 (AB ls), .sl 1 1 (sls 1 ps)] 0, Nv kind spot way] (.tup [.os 1 (AB n), .v (.bool b)]) [.bot, .bot])
  (hfair : named = true → kind ≠ 4 → SoundAt Tryz.prog 137 [.agg [.v (.int .i64 W), .v (.int .i64 T), .sl 1 1 (AC cs)], .sl 1 1 (AB ds), .sl 1 1 (AB n)] (.v (.bool fb)) [.bot, .bot, .bot])
  (hclone : ∀ us : List Value, us.length < 2 ^ 40 → (∀ u ∈ us, u.oneCell' = true) → SoundAt Tryz.prog 135 [.sl 1 1 (KL us)] (.os 1 (KL us)) [.bot]) :
  SoundAt Tryz.prog B5 [OT W T cs ds ls ps, Nv kind spot way] (.v (.bool (Kh named kind ls ps n (b && fb)).1))
   [OT W T cs ds (Kh named kind ls ps n (b && fb)).2.1 (Kh named kind ls ps n (b && fb)).2.2, .bot] := by
 have htl : (AB ls).take ls.length = AB ls := AD ls
 have hto : (oss ps).take ps.length = oss ps := List.take_of_length_le (by simp [oss])
 cases named with
 | false =>
   refine AE (md := mdo) (ms := [true, false]) k (by simp) ?_
   simp [BF, Kh]
   refine AA hneeds ?_
   simp [htl, hto]
 | true =>
 by_cases hk : kind = 4
 ·subst hk
  rcases List.eq_nil_or_concat ps with rfl | ⟨qs, q, h⟩
  ·refine AE (md := mdo) (ms := [true, false]) k (by simp) ?_
   simp [BF, Kh]
   refine AA hneeds ?_
   simp [htl, hto]
  ·rw [List.concat_eq_append] at h
   subst h
   have e : Kh true 4 ls (qs ++ [q]) n (b && fb) = (true, q, qs) := by simp [Kh]
   rw [e]
   exact VU k W T cs ds ls q qs spot way (by simp at hp; omega) hneeds hclone
 ·have h := XG k W T cs ds ls n ps kind spot way b fb hp hk hls hn hneeds (hby rfl hk) (hfair rfl hk) hclone
  cases hb : (b && fb) with
  | false =>
    rw [hb] at h
    have e : Kh true kind ls ps n false = (false, ls, ps) := by simp [Kh, hk]
    rw [e]; simpa using h
  | true =>
    rw [hb] at h
    have e : Kh true kind ls ps n true = (true, n, Fi ls ps) := by simp [Kh, hk]
    rw [e]; simpa using h
def Sa (kind : Int) (n0 n1 n2 n3 : List Int) (b0 b1 b2 b3 : Bool) : List Int × Bool :=
 if kind = 0 then (n0, b0) else if kind = 1 then (n1, b1) else if kind = 2 then (n2, b2) else if kind = 3 then (n3, b3) else ([], false)
set_option maxHeartbeats 8000000 in
theorem XH (k : cFn Tryz.prog Fh 72 [.t 4, .t 5] BH) (W T : Int) (cs : List Bool) (ds ls n0 n1 n2 n3 : List Int) (ps : List (List Int)) (kind spot way : Int) (b0 b1 b2 e3 : Bool)
  (h0 : SoundAt Tryz.prog 190 [.agg [.v (.int .i64 W), .v (.int .i64 T), .sl 1 1 (AC cs)], .sl 1 1 (AB ls), .v (.int .i64 spot), .v (.int .i64 way)] (.tup [.os 1 (AB n0), .v (.bool b0)]) [.bot, .bot, .bot, .bot])
  (h1 : SoundAt Tryz.prog 191 [.agg [.v (.int .i64 W), .v (.int .i64 T), .sl 1 1 (AC cs)], .sl 1 1 (AB ls), .v (.int .i64 spot)] (.tup [.os 1 (AB n1), .v (.bool b1)]) [.bot, .bot, .bot])
  (h2 : SoundAt Tryz.prog 192 [.agg [.v (.int .i64 W), .v (.int .i64 T), .sl 1 1 (AC cs)], .sl 1 1 (AB ls), .v (.int .i64 spot)] (.tup [.os 1 (AB n2), .v (.bool b2)]) [.bot, .bot, .bot])
  (h3 : SoundAt Tryz.prog 193 [.agg [.v (.int .i64 W), .v (.int .i64 T), .sl 1 1 (AC cs)], .sl 1 1 (AB ds), .sl 1 1 (AB ls)] (.os 1 (AB n3)) [.bot, .bot, .bot])
  (h4 : SoundAt Tryz.prog 194 [.sl 1 1 (AB n3), .sl 1 1 (AB ls)] (.v (.bool e3)) [.bot, .bot]) :
  SoundAt Tryz.prog Fh [.vp 1 [.v (.int .i64 W), .v (.int .i64 T), .sl 1 1 (AC cs), .sl 1 1 (AB ds), .sl 1 1 (AB ls), .sl 1 1 (sls 1 ps)] 0, Nv kind spot way]
   (.tup [.os 1 (AB (Sa kind n0 n1 n2 n3 b0 b1 b2 (!e3)).1), .v (.bool (Sa kind n0 n1 n2 n3 b0 b1 b2 (!e3)).2)]) [.bot, .bot] := by
 have t0 : (AB n0).take n0.length = AB n0 := AD n0
 have t1 : (AB n1).take n1.length = AB n1 := AD n1
 have t2 : (AB n2).take n2.length = AB n2 := AD n2
 have t3 : (AB n3).take n3.length = AB n3 := AD n3
 refine AE (md := mdo) (ms := [false, false]) k (by simp) ?_
 by_cases hk0 : kind = 0
 ·simp [BH, hk0, Sa]
  (repeat' first | omega | apply And.intro) <;>
  ·refine AA h0 ?_
   simp [t0]
 by_cases hk1 : kind = 1
 ·subst hk1
  simp [BH, Sa]
  (repeat' first | omega | apply And.intro) <;>
  ·refine AA h1 ?_
   simp [t1]
 by_cases hk2 : kind = 2
 ·subst hk2
  simp [BH, Sa]
  (repeat' first | omega | apply And.intro) <;>
  ·refine AA h2 ?_
   simp [t2]
 by_cases hk3 : kind = 3
 ·subst hk3
  simp [BH, Sa]
  (repeat' first | omega | apply And.intro) <;>
  ·refine AA h3 ?_
   simp
   (repeat' first | omega | apply And.intro) <;>
   ·refine AA h4 ?_
    simp [t3]
 ·simp [BH, hk0, hk1, hk2, hk3, Sa]
@[simp] abbrev QX : Nat := 179
def QY : ACode := .seq (.reg [.o 2 .box [.t 0], .o 4 .mv [.kb false]]) <| .seq (.reg [.la 5 3 2, .o 6 (.call 108 []) [.t 5], .m 7 6, .g 8 (.load true 3) [.t 2] 7 true, .mg 9 1 7 true, .g 10 (.call 154 []) [.t 8, .t 9] 7 true, .o 11 .pick [.t 7, .t 10, .kb false], .m 4 11]) <| .ret
theorem XI : cFn Tryz.prog QX 12 [.t 4] QY := ⟨Tryz.f179, _, Tryz.func179, rfl, by kernel_rfl, by kernel_rfl, by kernel_rfl, by kernel_rfl⟩
@[simp] abbrev BI : Nat := 53
def CX : ACode := .seq (.reg [.o 2 .mv [.c (.os 3 [])]]) <| .seq (.reg [.m 3 0, .m 4 0, .n 5 4, .m 6 0, .n 7 6, .o 8 (.slice 3 false false true true) [.t 3, .t 5, .t 7], .m 2 8]) <| .ret
theorem Fj : cFn Tryz.prog BI 9 [.t 2] CX := ⟨Tryz.f53, _, Tryz.func53, rfl, by kernel_rfl, by kernel_rfl, by kernel_rfl, by kernel_rfl⟩
@[simp] abbrev AU : Nat := 178
def GD : ACode := .seq (.reg [.o 2 .mv [.kb false]]) <| .seq (.reg [.m 3 0, .o 4 (.bin .eql 0) [.t 3, .k 1], .m 5 4, .mg 6 0 5 false, .g 7 (.bin .eql 0) [.t 6, .k 2] 5 false, .o 8 .pick [.t 5, .kb true, .t 7], .m 2 8]) <| .ret
theorem MF : cFn Tryz.prog AU 9 [.t 2] GD := ⟨Tryz.f178, _, Tryz.func178, rfl, by kernel_rfl, by kernel_rfl, by kernel_rfl, by kernel_rfl⟩
@[simp] abbrev HR : Nat := 127
def DC : ACode := .seq (.reg [.o 37 (.bin .lss 0) [.t 36, .t 35]]) <| .seq (.cond (.t 37) ( .skip) ( .exit 0)) <| .seq (.block 1 ( .seq (.reg [.m 38 36, .o 39 (.iadr 1) [.t 34, .t 36], .l 40 39, .m 7 38, .m 8 40]) <| .seq (.reg [.m 41 6, .m 42 8, .o 43 (.callv []) [.t 41, .t 42], .m 44 43, .mg 45 3 44 true, .mg 46 7 44 true, .g 47 (.iadr 1) [.t 45, .t 46] 44 true, .lg 48 47 44 true, .mg 49 8 44 true, .g 50 (.bin .neq 0) [.t 48, .t 49] 44 true, .o 51 .pick [.t 44, .t 50, .kb false]]) <| .cond (.t 51) ( .reg [.m 52 5, .m 53 7, .o 54 (.build dz [(0, 1), (1, 1), (2, 1)]) [.k 1, .t 53, .k 0], .o 55 (.bsl 3) [.t 54], .o 56 (.app 3 24 true) [.t 52, .t 55], .m 5 56]) ( .skip))) <| .reg [.o 57 (.bin .add 0) [.t 36, .k 1], .m 36 57]
def DD : ACode := .seq (.reg [.o 61 (.bin .lss 0) [.t 60, .t 59]]) <| .seq (.cond (.t 61) ( .skip) ( .exit 2)) <| .seq (.block 3 ( .seq (.reg [.m 62 60, .o 63 (.iadr 1) [.t 58, .t 60], .l 64 63, .m 9 62, .m 10 64]) <| .seq (.reg [.m 65 6, .m 66 10, .o 67 (.callv []) [.t 65, .t 66], .m 68 67, .mg 69 0 68 true, .g 70 .nilck [.t 69] 68 true, .fg 71 4 70 68 true, .lg 72 71 68 true, .mg 73 9 68 true, .g 74 (.iadr 1) [.t 72, .t 73] 68 true, .lg 75 74 68 true, .mg 76 10 68 true, .g 77 (.bin .neq 0) [.t 75, .t 76] 68 true, .o 78 .pick [.t 68, .t 77, .kb false]]) <| .cond (.t 78) ( .reg [.m 79 5, .m 80 9, .m 81 10, .o 82 (.build dz [(0, 1), (1, 1), (2, 1)]) [.k 0, .t 80, .t 81], .o 83 (.bsl 3) [.t 82], .o 84 (.app 3 24 true) [.t 79, .t 83], .m 5 84]) ( .skip))) <| .reg [.o 85 (.bin .add 0) [.t 60, .k 1], .m 60 85]
def Bv : ACode := .seq (.seq (.reg [.m 29 4, .o 30 (.un .not) [.t 29]]) <| .cond (.t 30) ( .seq (.reg [.o 2 .mv [.c (.os 3 [])]]) <| .ret) ( .skip)) <| .seq (.reg [.o 5 .mv [.c (.os 3 [])]]) <| .seq (.reg [.o 6 .mv [.f 178]]) <| .seq (.seq (.reg [.m 31 0, .o 32 .nilck [.t 31], .f 33 4 32, .l 34 33, .n 35 34, .o 36 .mv [.k 0]]) <| .block 0 ( .loop [(3, 1), (5, 3), (34, 1)] [0, 3, 5, 6, 34, 35, 36] DC)) <| .seq (.seq (.reg [.m 58 3, .n 59 58, .o 60 .mv [.k 0]]) <| .block 2 ( .loop [(5, 3), (58, 1)] [0, 5, 6, 58, 59, 60] DD)) <| .seq (.reg [.m 86 5, .o 87 (.call 53 []) [.t 86], .m 2 87]) <| .ret
abbrev AX : Plan := .al (.o 26 (.call 177 []) [.t 15, .t 19, .t 25]) ( .take (.m 11 26) <| .take (.e 27 0 11) <| .take (.e 28 1 11) <| .take (.m 3 27) <| .take (.m 4 28) <| .done)
abbrev Bw : Plan := .al (.o 25 (.mksl 1 8 (.v (.int .i64 (0)))) [.t 24, .t 24]) AX
abbrev Fk : Plan := .al (.l 23 22) ( .take (.n 24 23) <| .al (.o 25 (.mksl 1 8 (.v (.int .i64 (0)))) [.t 24, .t 24]) AX)
def HS : ACode := .seq (.reg [.o 2 .mv [.c (.os 3 [])]]) <| .seq (.draw ( .take (.m 12 0) <| .take (.o 13 .nilck [.t 12]) <| .take (.f 14 0 13) <| .take (.m 16 0) <| .take (.o 17 .nilck [.t 16]) <| .take (.f 18 3 17) <| .take (.m 20 0) <| .take (.o 21 .nilck [.t 20]) <| .take (.f 22 3 21) <| .alt (.la 15 3 14) ( .alt (.l 19 18) Fk <| .al (.l 23 22) ( .take (.n 24 23) <| .alt (.l 19 18) Bw <| .al (.o 25 (.mksl 1 8 (.v (.int .i64 (0)))) [.t 24, .t 24]) ( .al (.l 19 18) AX))) <| .alt (.l 19 18) ( .alt (.la 15 3 14) Fk <| .al (.l 23 22) ( .take (.n 24 23) <| .alt (.la 15 3 14) Bw <| .al (.o 25 (.mksl 1 8 (.v (.int .i64 (0)))) [.t 24, .t 24]) ( .al (.la 15 3 14) AX))) <| .al (.l 23 22) ( .take (.n 24 23) <| .alt (.la 15 3 14) ( .alt (.l 19 18) Bw <| .al (.o 25 (.mksl 1 8 (.v (.int .i64 (0)))) [.t 24, .t 24]) ( .al (.l 19 18) AX)) <| .alt (.l 19 18) ( .alt (.la 15 3 14) Bw <| .al (.o 25 (.mksl 1 8 (.v (.int .i64 (0)))) [.t 24, .t 24]) ( .al (.la 15 3 14) AX)) <| .al (.o 25 (.mksl 1 8 (.v (.int .i64 (0)))) [.t 24, .t 24]) ( .alt (.la 15 3 14) ( .al (.l 19 18) AX) <| .al (.l 19 18) ( .al (.la 15 3 14) AX))))) <| .gc [] [0, 3, 4] Bv
theorem Nw : cFn Tryz.prog HR 88 [.t 2] HS := ⟨Tryz.f127, _, Tryz.func127, rfl, by kernel_rfl, by kernel_rfl, by kernel_rfl, by kernel_rfl⟩
@[simp] abbrev Mv : Nat := 75
abbrev EF : Plan := .take (.g 58 (.bin .neq 0) [.t 52, .t 57] 48 true) <| .take (.o 59 .pick [.t 48, .t 58, .kb false]) <| .done
def BJ : ACode := .seq (.seq (.reg [.m 28 6, .m 29 4, .n 30 29, .o 31 (.bin .lss 0) [.t 28, .t 30]]) <| .cond (.t 31) ( .skip) ( .exit 0)) <| .seq (.block 1 ( .seq (.draw ( .take (.f 34 4 1) <| .take (.m 36 6) <| .al (.l 35 34) ( .take (.o 37 (.iadr 1) [.t 35, .t 36]) <| .al (.l 38 37) ( .take (.o 39 (.bin .eql 0) [.t 38, .k 1]) <| .take (.m 40 39) <| .take (.fg 41 4 1 40 false) <| .take (.mg 43 6 40 false) <| .al (.lg 42 41 40 false) ( .take (.g 44 (.iadr 1) [.t 42, .t 43] 40 false) <| .al (.lg 45 44 40 false) ( .take (.g 46 (.bin .eql 0) [.t 45, .k 2] 40 false) <| .take (.o 47 .pick [.t 40, .kb true, .t 46]) <| .take (.m 48 47) <| .take (.mg 49 4 48 true) <| .take (.mg 50 6 48 true) <| .take (.g 51 (.iadr 1) [.t 49, .t 50] 48 true) <| .take (.fg 53 4 1 48 true) <| .take (.mg 55 6 48 true) <| .alt (.lg 52 51 48 true) ( .al (.lg 54 53 48 true) ( .take (.g 56 (.iadr 1) [.t 54, .t 55] 48 true) <| .al (.lg 57 56 48 true) EF)) <| .al (.lg 54 53 48 true) ( .take (.g 56 (.iadr 1) [.t 54, .t 55] 48 true) <| .alt (.lg 52 51 48 true) ( .al (.lg 57 56 48 true) EF) <| .al (.lg 57 56 48 true) ( .al (.lg 52 51 48 true) EF)))))))) <| .cond (.t 59) ( .reg [.m 60 3, .m 61 6, .o 62 (.build dz [(0, 1), (1, 1)]) [.k 1, .t 61], .o 63 (.bsl 3) [.t 62], .o 64 (.app 3 24 true) [.t 60, .t 63], .m 3 64]) ( .skip))) <| .reg [.m 32 6, .o 33 (.bin .add 0) [.t 32, .k 1], .m 6 33]
abbrev EG : Plan := .take (.g 93 (.bin .neq 0) [.t 87, .t 92] 83 true) <| .take (.o 94 .pick [.t 83, .t 93, .kb false]) <| .done
def BK : ACode := .seq (.seq (.reg [.m 65 7, .m 66 4, .n 67 66, .o 68 (.bin .lss 0) [.t 65, .t 67]]) <| .cond (.t 68) ( .skip) ( .exit 2)) <| .seq (.block 3 ( .seq (.draw ( .take (.m 71 4) <| .take (.m 72 7) <| .take (.o 73 (.iadr 1) [.t 71, .t 72]) <| .al (.l 74 73) ( .take (.o 75 (.bin .eql 0) [.t 74, .k 1]) <| .take (.m 76 75) <| .take (.mg 77 4 76 false) <| .take (.mg 78 7 76 false) <| .take (.g 79 (.iadr 1) [.t 77, .t 78] 76 false) <| .al (.lg 80 79 76 false) ( .take (.g 81 (.bin .eql 0) [.t 80, .k 2] 76 false) <| .take (.o 82 .pick [.t 76, .kb true, .t 81]) <| .take (.m 83 82) <| .take (.mg 84 4 83 true) <| .take (.mg 85 7 83 true) <| .take (.g 86 (.iadr 1) [.t 84, .t 85] 83 true) <| .take (.fg 88 4 1 83 true) <| .take (.mg 90 7 83 true) <| .alt (.lg 87 86 83 true) ( .al (.lg 89 88 83 true) ( .take (.g 91 (.iadr 1) [.t 89, .t 90] 83 true) <| .al (.lg 92 91 83 true) EG)) <| .al (.lg 89 88 83 true) ( .take (.g 91 (.iadr 1) [.t 89, .t 90] 83 true) <| .alt (.lg 87 86 83 true) ( .al (.lg 92 91 83 true) EG) <| .al (.lg 92 91 83 true) ( .al (.lg 87 86 83 true) EG)))))) <| .cond (.t 94) ( .reg [.m 95 3, .m 96 7, .m 97 4, .m 98 7, .o 99 (.iadr 1) [.t 97, .t 98], .l 100 99, .o 101 (.build dz [(0, 1), (1, 1), (2, 1)]) [.k 0, .t 96, .t 100], .o 102 (.bsl 3) [.t 101], .o 103 (.app 3 24 true) [.t 95, .t 102], .m 3 103]) ( .skip))) <| .reg [.m 69 7, .o 70 (.bin .add 0) [.t 69, .k 1], .m 7 70]
def Dq : ACode := .seq (.seq (.reg [.m 20 5, .o 21 (.un .not) [.t 20], .m 22 21, .g 23 (.load true 6) [.t 1] 22 false, .g 24 (.call 18 []) [.t 23] 22 false, .g 25 (.un .not) [.t 24] 22 false, .o 26 .pick [.t 22, .kb true, .t 25]]) <| .cond (.t 26) ( .seq (.reg [.m 27 3, .m 2 27]) <| .ret) ( .skip)) <| .seq (.seq (.reg [.o 6 .mv [.k 0]]) <| .block 0 ( .loop [(3, 3), (4, 1)] [1, 3, 4, 6] BJ)) <| .seq (.seq (.reg [.o 7 .mv [.k 0]]) <| .block 2 ( .loop [(3, 3), (4, 1)] [1, 3, 4, 7] BK)) <| .seq (.reg [.m 104 3, .m 2 104]) <| .ret
abbrev CY : Plan := .al (.o 17 (.call 145 []) [.t 11, .t 13, .t 16]) ( .take (.m 9 17) <| .take (.e 18 0 9) <| .take (.e 19 1 9) <| .take (.m 4 18) <| .take (.m 5 19) <| .done)
abbrev Dr : Plan := .al (.o 16 (.call 146 []) [.t 15]) CY
abbrev Jl : Plan := .alt (.la 11 3 10) Dr <| .al (.o 16 (.call 146 []) [.t 15]) ( .al (.la 11 3 10) CY)
abbrev Jm : Plan := .alt (.l 13 12) Dr <| .al (.o 16 (.call 146 []) [.t 15]) ( .al (.l 13 12) CY)
def Mw : ACode := .seq (.reg [.o 1 .box [.t 0], .o 2 .mv [.c (.os 3 [])]]) <| .seq (.reg [.o 8 (.bsl 3) [], .m 3 8]) <| .seq (.draw ( .take (.f 10 0 1) <| .take (.f 12 3 1) <| .take (.f 14 0 1) <| .alt (.la 11 3 10) ( .alt (.l 13 12) ( .al (.la 15 3 14) Dr) <| .al (.la 15 3 14) Jm) <| .alt (.l 13 12) ( .alt (.la 11 3 10) ( .al (.la 15 3 14) Dr) <| .al (.la 15 3 14) Jl) <| .al (.la 15 3 14) ( .alt (.la 11 3 10) Jm <| .alt (.l 13 12) Jl <| .al (.o 16 (.call 146 []) [.t 15]) ( .alt (.la 11 3 10) ( .al (.l 13 12) CY) <| .al (.l 13 12) ( .al (.la 11 3 10) CY))))) <| .gc [] [1, 3, 4, 5] Dq
theorem UN : cFn Tryz.prog Mv 105 [.t 2] Mw := ⟨Tryz.f75, _, Tryz.func75, rfl, by kernel_rfl, by kernel_rfl, by kernel_rfl, by kernel_rfl⟩
@[simp] def md3 (f : Nat) : List Bool := if f = 999999 then [true, false] else if f = BI then [true] else md0 f
def A8 (d : Int × Int × Int) : AV := .agg [.v (.int .i64 d.1), .v (.int .i64 d.2.1), .v (.int .i64 d.2.2)]
def dsA (xs : List (Int × Int × Int)) : List AV := xs.map A8
@[simp] theorem kW (xs : List (Int × Int × Int)) : (dsA xs).length = xs.length := by simp [dsA]
@[simp] theorem nz : dsA [] = [] := rfl
theorem Nm (a b : List (Int × Int × Int)) : dsA (a ++ b) = dsA a ++ dsA b := by simp [dsA]
theorem jd {xs : List (Int × Int × Int)} {i : Nat} (h : i < xs.length) : (dsA xs)[i]? = some (A8 xs[i]) := by simp [dsA, h]
@[simp] theorem nI {xs : List (Int × Int × Int)} {i : Nat} (h : i < (dsA xs).length) : (dsA xs)[i] = A8 (xs[i]'(by simpa using h)) := by simp [dsA]
theorem aL {xs : List (Int × Int × Int)} {i : Nat} (h : i < xs.length) : (dsA xs)[i]? = some (.agg [.v (.int .i64 xs[i].1), .v (.int .i64 xs[i].2.1), .v (.int .i64 xs[i].2.2)]) := jd h
theorem QZ (xs : List (Int × Int × Int)) : SoundAt Tryz.prog BI [.os 3 (dsA xs)] (.os 3 (dsA xs)) [.bot] := by
 refine AE (md := md3) (ms := [false]) Fj (by simp) ?_
 simp [CX]
 exact List.take_of_length_le (by simp)
theorem GE (w : Int) : SoundAt Tryz.prog AU [.v (.int .i64 w)] (.v (.bool (decide (w = 1 ∨ w = 2)))) [.bot] := by
 refine AE (md := md3) (ms := [false]) MF (by simp) ?_
 by_cases h1 : w = 1 <;> by_cases h2 : w = 2 <;> simp [GD, h1, h2]
abbrev fi := Int × Int × Int
def Ki (f : List Int → List (List Int) → fi → Bool × List Int × List (List Int)) : List Int → List (List Int) → List fi → List Int × List (List Int) × Nat
 | ls, ps, [] => (ls, ps, 0)
 | ls, ps, d :: xs => let r := f ls ps d; let q := Ki f r.2.1 r.2.2 xs; (q.1, q.2.1, q.2.2 + if r.1 then 1 else 0)
theorem O8 (f : List Int → List (List Int) → fi → Bool × List Int × List (List Int)) : ∀ (xs : List fi) (ls : List Int) (ps : List (List Int)) (d : fi),
  Ki f ls ps (xs ++ [d]) = (let q := Ki f ls ps xs; let r := f q.1 q.2.1 d; (r.2.1, r.2.2, q.2.2 + if r.1 then 1 else 0))
 | [], ls, ps, d => by simp only [List.nil_append, Ki, Nat.zero_add]; rfl
 | x :: xs, ls, ps, d => by
   rw [List.cons_append, Ki, Ki]
   simp only [O8 f xs]
   simp only [Nat.add_right_comm]
def VV (W T : Int) (cs : List Bool) (ds : List Int) (ps : List (List Int)) : Bool := U6 ps.length (fun k => Af W T cs ds (pti ps k))
def Am (W T : Int) (cs : List Bool) (ds ls : List Int) (ps : List (List Int)) : Bool := (Af W T cs ds ls && decide (ps.length ≤ 20)) && VV W T cs ds ps
theorem Bm (W T : Int) (cs : List Bool) (ds ls : List Int) (ps : List (List Int)) (hc : cs.length < 2 ^ 40) (hd : ds.length < 2 ^ 40) (hl : ls.length < 2 ^ 40) (hb : ps.length < 2 ^ 40) (hp : ∀ p ∈ ps, p.length < 2 ^ 40) :
  SoundAt Tryz.prog HG [bkA W T cs ds ls ps] (.v (.bool (Am W T cs ds ls ps))) [.bot] := by
 refine AE (md := md0) (ms := [false]) SY (by simp) ?_
 simp [Lh]
 refine AF (fun m E H => ∃ i : Nat, m = ps.length - i ∧ i ≤ ps.length ∧ U6 i (fun k => Af W T cs ds (pti ps k)) = true ∧ H = [some (.box [.v (.int .i64 W), .v (.int .i64 T), .sl 1 1 (AC cs), .sl 1 1 (AB ds), .sl 1 1 (AB ls), .sl 1 1 (sls 1 ps)])] ∧ E = [(1, .lp 0 0 0 0), (3, .v (.int .i64 i))]) ps.length ⟨0, by simp [Gs]⟩ ?_
 rintro J hJ m E H ⟨i, rfl, hi, ha, rfl, rfl⟩
 by_cases h : i < ps.length
 case neg =>
  have : i = ps.length := by omega
  subst this
  simp [E7]
  refine AA (BW W T cs ds ls hc hd hl) ?_
  simp [Am, VV, ha]
  cases Af W T cs ds ls <;> simp
  omega
 have one := BW W T cs ds (pti ps i) hc hd (hp _ (LG h))
 have hno : Af W T cs ds (pti ps i) = false → Am W T cs ds ls ps = false := by
  intro hf
  have : VV W T cs ds ps = false := GQ h hf
  simp [Am, this]
 simp [E7, h]
 (repeat' first | assumption | omega | apply And.intro) <;>
 ·refine AA one ?_
  cases hf : Af W T cs ds (pti ps i) with
  | false => simp [hno hf]
  | true =>
    simp
    exact ⟨by omega, _, by omega, hJ _ _ _ ⟨i + 1, rfl, h, by rw [Gt, ha, hf]; rfl, rfl, rfl⟩⟩
theorem Qa (W T : Int) (cs : List Bool) (ds ls : List Int) (ps : List (List Int)) (p : List Int) (hc : cs.length < 2 ^ 40) (hd : ds.length < 2 ^ 40) (hp : p.length < 2 ^ 40) :
  SoundAt Tryz.prog Jg [.sl 1 1 (AB p), .vp 1 [.v (.int .i64 W), .v (.int .i64 T), .sl 1 1 (AC cs), .sl 1 1 (AB ds), .sl 1 1 (AB ls), .sl 1 1 (sls 1 ps)] 0] (.v (.bool (!Af W T cs ds p))) [.bot, .bot] := by
 refine AE (md := md0) (ms := [false, false]) QU (by simp) ?_
 simp [Jh]
 refine AA (Hf W T cs ds p hc hd hp) ?_
 simp
@[simp] def bkP (W T : Int) (cs : List Bool) (ds ls : List Int) (ps : List (List Int)) : AV := .vp 1 [.v (.int .i64 W), .v (.int .i64 T), .sl 1 1 (AC cs), .sl 1 1 (AB ds), .sl 1 1 (AB ls), .sl 1 1 (sls 1 ps)] 0
def Ra (W T : Int) (cs : List Bool) (ds : List Int) (ps : List (List Int)) : Int := EC (fun k => !Af W T cs ds (pti ps k)) ps.length
theorem Qb (W T : Int) (cs : List Bool) (ds ls : List Int) (ps qs : List (List Int)) (hc : cs.length < 2 ^ 40) (hd : ds.length < 2 ^ 40) (hb : ps.length < 2 ^ 40) (hp : ∀ p ∈ ps, p.length < 2 ^ 40) :
  SoundAt Tryz.prog EY [.sl 1 1 (sls 1 ps), .fn 100 [bkP W T cs ds ls qs]] (.v (.int .i64 (Ra W T cs ds ps))) [.bot, .bot] := by
 refine AE (md := md0) (ms := [false, false]) I9 (by simp) ?_
 simp [EZ]
 refine AF (fun m E H => ∃ i : Nat, m = ps.length - i ∧ i ≤ ps.length ∧ (∀ k : Nat, k < i → (!Af W T cs ds (pti ps k)) = false) ∧ H = [] ∧ E = [(0, .sl 1 1 (sls 1 ps)), (1, .fn 100 [bkP W T cs ds ls qs]), (7, .v (.int .i64 ps.length)), (8, .v (.int .i64 i))]) ps.length ⟨0, by simp⟩ ?_
 rintro J hJ m E H ⟨i, rfl, hi, ha, rfl, rfl⟩
 by_cases h : i < ps.length
 case neg =>
  have : i = ps.length := by omega
  subst this
  have e : Ra W T cs ds ps = -1 := Bk ha
  simp [Bl, e]
 have one := Qa W T cs ds ls qs (pti ps i) hc hd (hp _ (LG h))
 simp [Bl, h]
 refine ⟨by kernel_rfl, ?_⟩
 refine AA one ?_
 cases hf : Af W T cs ds (pti ps i) with
 | false =>
   have e : Ra W T cs ds ps = i := B7 h (by simp [hf]) ha
   simp [e]
 | true =>
   simp
   refine ⟨by omega, _, by omega, hJ _ _ _ ⟨i + 1, rfl, h, ?_, rfl, rfl⟩⟩
   intro k hk
   rcases Nat.lt_or_ge k i with h1 | h1
   ·exact ha k h1
   ·have : k = i := by omega
    subst this; simp [hf]
theorem Mx (W T : Int) (cs : List Bool) (ds ls : List Int) (ps qs : List (List Int)) (hc : cs.length < 2 ^ 40) (hd : ds.length < 2 ^ 40) (hb : ps.length < 2 ^ 40) (hp : ∀ p ∈ ps, p.length < 2 ^ 40) :
  SoundAt Tryz.prog DV [.sl 1 1 (sls 1 ps), .fn 100 [bkP W T cs ds ls qs]] (.v (.bool (!VV W T cs ds ps))) [.bot, .bot] := by
 refine AE (md := md0) (ms := [false, false]) HH (by simp) ?_
 simp [DW]
 refine AA (Qb W T cs ds ls ps qs hc hd hb hp) ?_
 have e : decide (0 ≤ Ra W T cs ds ps) = !VV W T cs ds ps := by
  cases hpb : VV W T cs ds ps with
  | true =>
    have h2 : Ra W T cs ds ps = -1 := Bk fun k hk => by
     have := (Co _ _).1 hpb k hk
     simp [this]
    rw [h2]; rfl
  | false =>
    rcases Ms (fun k => !Af W T cs ds (pti ps k)) ps.length with h2 | ⟨k, hk, hx, h2⟩
    ·exfalso
     have : VV W T cs ds ps = true := by
      rw [VV, Co]
      intro k hk
      cases hx : Af W T cs ds (pti ps k) with
      | true => rfl
      | false =>
        exfalso
        have hm : ∃ x ∈ List.range ps.length, (!Af W T cs ds (pti ps x)) = true := ⟨k, by simpa using hk, by simp [hx]⟩
        have hs := List.find?_isSome.2 hm
        unfold EC at h2
        split at h2
        ·omega
        ·rename_i h9; rw [h9] at hs; cases hs
     rw [this] at hpb; cases hpb
    ·have h3 : Ra W T cs ds ps = k := h2
     rw [h3]; simp
 simp [e]
theorem Ll (W T : Int) (cs : List Bool) (ds ls : List Int) (ps : List (List Int)) (hc : cs.length < 2 ^ 40) (hd : ds.length < 2 ^ 40) (hl : ls.length < 2 ^ 40) (hb : ps.length < 2 ^ 40) (hp : ∀ p ∈ ps, p.length < 2 ^ 40) :
  SoundAt Tryz.prog Li [bkA W T cs ds ls ps] (.v (.bool (Am W T cs ds ls ps))) [.bot] := by
 refine AE (md := md0) (ms := [false]) SZ (by simp) ?_
 simp [Lj]
 refine AA (Hf W T cs ds ls hc hd hl) ?_
 cases hf : Af W T cs ds ls with
 | false => simp [Am, hf]
 | true =>
 by_cases h20 : ps.length ≤ 20
 case neg =>
  have h20' : ¬ (ps.length : Int) ≤ 20 := by omega
  simp [Am, hf, h20, h20']
 have h20' : (ps.length : Int) ≤ 20 := by omega
 simp [h20']
 refine AA (Mx W T cs ds ls ps ps hc hd hb hp) ?_
 simp [Am, hf, h20]
theorem Nn {W T : Int} {cs : List Bool} {ds ls : List Int} {ps : List (List Int)} (h : Am W T cs ds ls ps = true) : Af W T cs ds ls = true := by
 simp only [Am, Bool.and_eq_true] at h; exact h.1.1
def fj (W T : Int) (cs : List Bool) (ds ls : List Int) (ps : List (List Int)) : Bool := Am W T cs ds ls ps && J7 cs ls
theorem Rb (W T : Int) (cs : List Bool) (ds ls : List Int) (ps : List (List Int)) (hc : cs.length < 2 ^ 40) (hd : ds.length < 2 ^ 40) (hl : ls.length < 2 ^ 40) (hb : ps.length < 2 ^ 40) (hp : ∀ p ∈ ps, p.length < 2 ^ 40) :
  SoundAt Tryz.prog Kb [bkA W T cs ds ls ps] (.v (.bool (fj W T cs ds ls ps))) [.bot] := by
 refine AE (md := md0) (ms := [false]) RY (by simp) ?_
 simp [Kc]
 refine AA (Bm W T cs ds ls ps hc hd hl hb hp) ?_
 cases hv : Am W T cs ds ls ps with
 | false => simp [fj, hv]
 | true =>
 simp
 refine AA (Mm W T cs ds ls hc hd hl) ?_
 simp [fj, hv, Cx, Nn hv]
theorem gx {cs : List Bool} {ds ls : List Int} {ps : List (List Int)} {n : Nat} (h : UL cs ds ls ps ≤ n) : cs.length ≤ n ∧ ds.length ≤ n ∧ ls.length ≤ n ∧ ps.length ≤ n ∧ ∀ p ∈ ps, p.length ≤ n := by
 unfold UL at h
 refine ⟨by omega, by omega, by omega, by omega, fun p hp => ?_⟩
 obtain ⟨i, hi, rfl⟩ := List.getElem_of_mem hp
 have := mC hi
 rw [ED hi] at this
 omega
@[simp] abbrev Lm : Nat := 147
def Ln : ACode := .seq (.reg [.o 1 .box [.t 0], .o 2 .mv [.k 0]]) <| .seq (.seq (.reg [.la 3 3 1, .o 4 (.call 168 []) [.t 3], .o 5 (.un .not) [.t 4]]) <| .cond (.t 5) ( .seq (.reg [.o 2 .mv [.k (-1)]]) <| .ret) ( .skip)) <| .seq (.reg [.f 6 2 1, .l 7 6, .o 8 (.call 203 []) [.t 7], .m 2 8]) <| .ret
theorem Sc : cFn Tryz.prog Lm 9 [.t 2] Ln := ⟨Tryz.f147, _, Tryz.func147, rfl, by kernel_rfl, by kernel_rfl, by kernel_rfl, by kernel_rfl⟩
@[simp] abbrev My : Nat := 144
def CZ : ACode := .seq (.seq (.reg [.m 11 6, .m 12 1, .n 13 12, .o 14 (.bin .lss 0) [.t 11, .t 13]]) <| .cond (.t 14) ( .skip) ( .exit 0)) <| .seq (.block 1 ( .seq (.reg [.m 17 1, .m 18 6, .o 19 (.iadr 1) [.t 17, .t 18], .l 20 19, .o 21 (.bin .eql 0) [.t 20, .k 1], .m 22 21, .mg 23 1 22 false, .mg 24 6 22 false, .g 25 (.iadr 1) [.t 23, .t 24] 22 false, .lg 26 25 22 false, .g 27 (.bin .eql 0) [.t 26, .k 2] 22 false, .o 28 .pick [.t 22, .kb true, .t 27]]) <| .cond (.t 28) ( .reg [.m 29 5, .o 30 (.bin .add 0) [.t 29, .k 1], .m 5 30]) ( .skip))) <| .reg [.m 15 6, .o 16 (.bin .add 0) [.t 15, .k 1], .m 6 16]
def Mz : ACode := .seq (.reg [.o 2 .box [.t 0], .o 4 .mv [.k 0]]) <| .seq (.seq (.reg [.la 7 3 2, .m 8 1, .o 9 (.call 122 []) [.t 7, .t 8], .o 10 (.un .not) [.t 9]]) <| .cond (.t 10) ( .seq (.reg [.o 4 .mv [.k (-1)]]) <| .ret) ( .skip)) <| .seq (.reg [.o 5 .mv [.k 0]]) <| .seq (.seq (.reg [.o 6 .mv [.k 0]]) <| .block 0 ( .loop [(1, 1)] [1, 5, 6] CZ)) <| .seq (.reg [.m 31 5, .m 4 31]) <| .ret
theorem UO : cFn Tryz.prog My 32 [.t 4] Mz := ⟨Tryz.f144, _, Tryz.func144, rfl, by kernel_rfl, by kernel_rfl, by kernel_rfl, by kernel_rfl⟩
@[simp] abbrev UP : Nat := 183
def KB : ACode := .seq (.reg [.o 11 (.bin .lss 0) [.t 10, .t 9]]) <| .seq (.cond (.t 11) ( .skip) ( .exit 0)) <| .seq (.block 1 ( .seq (.reg [.o 12 (.iadr 1) [.t 8, .t 10], .l 13 12, .m 7 13]) <| .seq (.reg [.m 14 1, .m 15 7, .o 16 (.call 227 []) [.t 14, .t 15]]) <| .cond (.t 16) ( .reg [.m 17 5, .o 18 (.bin .add 0) [.t 17, .k 1], .m 5 18]) ( .skip))) <| .reg [.o 19 (.bin .add 0) [.t 10, .k 1], .m 10 19]
def UQ : ACode := .seq (.reg [.o 4 .mv [.k 0]]) <| .seq (.reg [.o 5 .mv [.k 0]]) <| .seq (.seq (.reg [.m 8 0, .n 9 8, .o 10 .mv [.k 0]]) <| .block 0 ( .loop [(1, 1), (8, 1)] [1, 5, 8, 9, 10] KB)) <| .seq (.reg [.m 20 5, .m 4 20]) <| .ret
theorem ZV : cFn Tryz.prog UP 21 [.t 4] UQ := ⟨Tryz.f183, _, Tryz.func183, rfl, by kernel_rfl, by kernel_rfl, by kernel_rfl, by kernel_rfl⟩
@[simp] abbrev Et : Nat := 227
def Eu : ACode := .seq (.reg [.o 4 .mv [.kb false]]) <| .seq (.reg [.m 5 0, .m 6 1, .o 7 (.call 258 []) [.t 5, .t 6], .o 8 (.bin .geq 0) [.t 7, .k 0], .m 4 8]) <| .ret
theorem KC : cFn Tryz.prog Et 9 [.t 4] Eu := ⟨Tryz.f227, _, Tryz.func227, rfl, by kernel_rfl, by kernel_rfl, by kernel_rfl, by kernel_rfl⟩
@[simp] abbrev GF : Nat := 258
def BX : ACode := .seq (.reg [.o 9 (.bin .lss 0) [.t 8, .t 7]]) <| .seq (.cond (.t 9) ( .skip) ( .exit 0)) <| .seq (.block 1 ( .seq (.reg [.m 10 8, .m 5 10]) <| .seq (.reg [.m 11 1, .m 12 0, .m 13 5, .o 14 (.iadr 1) [.t 12, .t 13], .l 15 14, .o 16 (.bin .eql 0) [.t 11, .t 15]]) <| .cond (.t 16) ( .seq (.reg [.m 17 5, .m 4 17]) <| .ret) ( .skip))) <| .reg [.o 18 (.bin .add 0) [.t 8, .k 1], .m 8 18]
def GG : ACode := .seq (.reg [.o 4 .mv [.k 0]]) <| .seq (.seq (.reg [.m 6 0, .n 7 6, .o 8 .mv [.k 0]]) <| .block 0 ( .loop [(0, 1)] [0, 1, 7, 8] BX)) <| .seq (.reg [.o 4 .mv [.k (-1)]]) <| .ret
theorem MG : cFn Tryz.prog GF 19 [.t 4] GG := ⟨Tryz.f258, _, Tryz.func258, rfl, by kernel_rfl, by kernel_rfl, by kernel_rfl, by kernel_rfl⟩
@[simp] abbrev Lo : Nat := 130
abbrev CD : Plan := .al (.o 14 (.call 183 []) [.t 12, .t 13]) ( .take (.o 15 (.bin .mul 0) [.k 2, .t 14]) <| .take (.o 16 (.bin .sub 0) [.t 8, .t 15]) <| .take (.m 2 16) <| .done)
abbrev DE : Plan := .al (.o 8 (.call 109 []) [.t 7]) CD
abbrev IY : Plan := .alt (.o 8 (.call 109 []) [.t 7]) ( .al (.o 13 (.bsl 1) [.k 1, .k 2]) CD) <| .al (.o 13 (.bsl 1) [.k 1, .k 2]) DE
abbrev IZ : Plan := .alt (.o 8 (.call 109 []) [.t 7]) ( .al (.l 12 11) CD) <| .al (.l 12 11) DE
def Lp : ACode := .seq (.reg [.o 2 .mv [.k 0]]) <| .seq (.draw ( .take (.m 3 0) <| .take (.o 4 .nilck [.t 3]) <| .take (.f 5 0 4) <| .take (.f 6 2 5) <| .take (.m 9 0) <| .take (.o 10 .nilck [.t 9]) <| .take (.f 11 4 10) <| .alt (.l 7 6) ( .alt (.o 8 (.call 109 []) [.t 7]) ( .alt (.l 12 11) ( .al (.o 13 (.bsl 1) [.k 1, .k 2]) CD) <| .al (.o 13 (.bsl 1) [.k 1, .k 2]) ( .al (.l 12 11) CD)) <| .alt (.l 12 11) IY <| .al (.o 13 (.bsl 1) [.k 1, .k 2]) IZ) <| .alt (.l 12 11) ( .alt (.l 7 6) IY <| .al (.o 13 (.bsl 1) [.k 1, .k 2]) ( .al (.l 7 6) DE)) <| .al (.o 13 (.bsl 1) [.k 1, .k 2]) ( .alt (.l 7 6) IZ <| .al (.l 12 11) ( .al (.l 7 6) DE)))) <| .ret
theorem Sd : cFn Tryz.prog Lo 17 [.t 2] Lp := ⟨Tryz.f130, _, Tryz.func130, rfl, by kernel_rfl, by kernel_rfl, by kernel_rfl, by kernel_rfl⟩
@[simp] abbrev Lq : Nat := 79
abbrev CE : Plan := .al (.o 13 (.call 144 []) [.t 10, .t 12]) ( .take (.o 14 (.bin .mul 0) [.k 2, .t 13]) <| .take (.o 15 (.bin .sub 0) [.t 8, .t 14]) <| .take (.m 2 15) <| .done)
abbrev DF : Plan := .al (.o 8 (.call 147 []) [.t 7]) CE
abbrev Ia : Plan := .alt (.o 8 (.call 147 []) [.t 7]) ( .al (.la 10 3 9) CE) <| .al (.la 10 3 9) DF
abbrev Ib : Plan := .alt (.o 8 (.call 147 []) [.t 7]) ( .al (.l 12 11) CE) <| .al (.l 12 11) DF
def Lr : ACode := .seq (.reg [.o 1 .box [.t 0], .o 2 .mv [.k 0]]) <| .seq (.seq (.reg [.la 3 6 1, .o 4 (.call 18 []) [.t 3], .o 5 (.un .not) [.t 4]]) <| .cond (.t 5) ( .seq (.reg [.o 2 .mv [.k (-1)]]) <| .ret) ( .skip)) <| .seq (.draw ( .take (.f 6 0 1) <| .take (.f 9 0 1) <| .take (.f 11 4 1) <| .alt (.la 7 3 6) ( .alt (.o 8 (.call 147 []) [.t 7]) ( .alt (.la 10 3 9) ( .al (.l 12 11) CE) <| .al (.l 12 11) ( .al (.la 10 3 9) CE)) <| .alt (.la 10 3 9) Ib <| .al (.l 12 11) Ia) <| .alt (.la 10 3 9) ( .alt (.la 7 3 6) Ib <| .al (.l 12 11) ( .al (.la 7 3 6) DF)) <| .al (.l 12 11) ( .alt (.la 7 3 6) Ia <| .al (.la 10 3 9) ( .al (.la 7 3 6) DF)))) <| .ret
theorem Sf : cFn Tryz.prog Lq 16 [.t 2] Lr := ⟨Tryz.f79, _, Tryz.func79, rfl, by kernel_rfl, by kernel_rfl, by kernel_rfl, by kernel_rfl⟩
def MH (x : Int) : Bool := decide (x = 1) || decide (x = 2)
def JA (ls : List Int) : Nat := ls.countP MH
theorem UR {ls : List Int} {i : Nat} (h : i < ls.length) : JA (ls.take (i + 1)) = JA (ls.take i) + (if MH (ati ls i) then 1 else 0) := by
 have e : ati ls i = ls[i] := by simp [ati, h]
 rw [e, List.take_succ_eq_append_getElem h, JA, List.countP_append, List.countP_singleton]
 rfl
theorem XJ (ls : List Int) : JA ls ≤ ls.length := List.countP_le_length
theorem Sg (W T : Int) (cs : List Bool) (hb : cs.length < 2 ^ 40) :
  SoundAt Tryz.prog Lm [.agg [.v (.int .i64 W), .v (.int .i64 T), .sl 1 1 (AC cs)]] (.v (.int .i64 (if A0 W T cs then Bg cs else -1))) [.bot] := by
 refine AE (md := md0) (ms := [false]) Sc (by simp) ?_
 simp [Ln]
 refine AA (BG W T cs hb) ?_
 cases hr : A0 W T cs with
 | false => simp
 | true =>
 simp
 refine AA (OJ cs hb) ?_
 simp
theorem Ic (W T : Int) (cs : List Bool) (ls : List Int) (hb : cs.length < 2 ^ 40) (hl : ls.length < 2 ^ 40) :
  SoundAt Tryz.prog My [.agg [.v (.int .i64 W), .v (.int .i64 T), .sl 1 1 (AC cs)], .sl 1 1 (AB ls)] (.v (.int .i64 (if A0 W T cs && AO W T cs ls then (JA ls : Int) else -1))) [.bot, .bot] := by
 refine AE (md := md0) (ms := [false, false]) UO (by simp) ?_
 simp [Mz]
 refine AA (BV W T cs ls hb hl) ?_
 cases hr : (A0 W T cs && AO W T cs ls) with
 | false =>
   have : ¬ (A0 W T cs = true ∧ AO W T cs ls = true) := by simpa using hr
   simp [this]
 | true =>
 have : A0 W T cs = true ∧ AO W T cs ls = true := by simpa using hr
 simp [this]
 refine AF (fun m E H => ∃ i : Nat, m = ls.length - i ∧ i ≤ ls.length ∧ H = [] ∧ E = [(1, .sl 1 1 (AB ls)), (5, .v (.int .i64 (JA (ls.take i)))), (6, .v (.int .i64 i))]) ls.length ⟨0, by simp [JA]⟩ ?_
 rintro J hJ m E H ⟨i, rfl, hi, rfl, rfl⟩
 by_cases h : i < ls.length
 case neg =>
  have : i = ls.length := by omega
  subst this
  simp [CZ]
 have hs := UR h
 have hle : JA (ls.take i) ≤ i := by have := XJ (ls.take i); simp at this; omega
 have next : ∀ v : Int, v = JA (ls.take (i + 1)) → C6 J (ls.length - i) [(1, .sl 1 1 (AB ls)), (5, .v (.int .i64 v)), (6, .v (.int .i64 (i + 1)))] [] := by
  rintro v rfl
  exact ⟨_, by omega, hJ _ _ _ ⟨i + 1, rfl, h, rfl, rfl⟩⟩
 by_cases e1 : ati ls i = 1
 ·simp [MH, e1] at hs
  simp [CZ, h, e1]
  exact ⟨by omega, by omega, next _ (by omega)⟩
 by_cases e2 : ati ls i = 2
 ·simp [MH, e2] at hs
  simp [CZ, h, e1, e2]
  exact ⟨by omega, by omega, next _ (by omega)⟩
 ·simp [MH, e1, e2] at hs
  simp [CZ, h, e1, e2]
  exact ⟨by omega, next _ (by omega)⟩
theorem VW (xs : List Int) (x : Int) (hl : xs.length < 2 ^ 40) :
  SoundAt Tryz.prog GF [.sl 1 1 (AB xs), .v (.int .i64 x)] (.v (.int .i64 (EC (fun k => decide (x = ati xs k)) xs.length))) [.bot, .bot] := by
 refine AE (md := md0) (ms := [false, false]) MG (by simp) ?_
 simp [GG]
 refine AF (fun m E H => ∃ i : Nat, m = xs.length - i ∧ i ≤ xs.length ∧ (∀ k : Nat, k < i → decide (x = ati xs k) = false) ∧ H = [] ∧ E = [(0, .sl 1 1 (AB xs)), (1, .v (.int .i64 x)), (7, .v (.int .i64 xs.length)), (8, .v (.int .i64 i))]) xs.length ⟨0, by simp⟩ ?_
 rintro J hJ m E H ⟨i, rfl, hi, ha, rfl, rfl⟩
 by_cases h : i < xs.length
 case neg =>
  have : i = xs.length := by omega
  subst this
  have e : EC (fun k => decide (x = ati xs k)) xs.length = -1 := Bk ha
  simp [BX, e]
 by_cases hx : x = ati xs i
 ·have e : EC (fun k => decide (x = ati xs k)) xs.length = i := B7 h (decide_eq_true hx) ha
  simp [BX, h, e]
  exact fun n => absurd hx n
 ·simp [BX, h, hx]
  refine ⟨by omega, _, by omega, hJ _ _ _ ⟨i + 1, rfl, h, ?_, rfl, rfl⟩⟩
  intro k hk
  rcases Nat.lt_or_ge k i with h1 | h1
  ·exact ha k h1
  ·have : k = i := by omega
   subst this; exact decide_eq_false hx
theorem O9 (x : Int) :
  SoundAt Tryz.prog Et [.sl 1 1 (AB [1, 2]), .v (.int .i64 x)] (.v (.bool (MH x))) [.bot, .bot] := by
 refine AE (md := md0) (ms := [false, false]) KC (by simp) ?_
 simp [Eu]
 refine AA (VW [1, 2] x (by simp)) ?_
 have e : decide (0 ≤ EC (fun k : Nat => decide (x = ati [1, 2] k)) 2) = MH x := by
  by_cases h1 : x = 1
  ·rw [B7 (k := 0) (by omega) (by simp [h1, ati]) (by omega)]; simp [MH, h1]
  ·by_cases h2 : x = 2
   ·have h0 : ∀ j : Nat, j < 1 → decide (x = ati [1, 2] j) = false := by
     intro j hj
     have : j = 0 := by omega
     subst this
     simp [ati, h1]
    rw [B7 (k := 1) (by omega) (by simp [h2, ati]) h0]
    simp [MH, h2]
   ·have h0 : ∀ j : Nat, j < 2 → decide (x = ati [1, 2] j) = false := by
     intro j hj
     have : j = 0 ∨ j = 1 := by omega
     rcases this with rfl | rfl <;> simp [ati, h1, h2]
    rw [Bk h0]
    simp [MH, h1, h2]
 simp [e]
theorem XK (ls : List Int) (hl : ls.length < 2 ^ 40) :
  SoundAt Tryz.prog UP [.sl 1 1 (AB ls), .sl 1 1 (AB [1, 2])] (.v (.int .i64 (JA ls))) [.bot, .bot] := by
 refine AE (md := md0) (ms := [false, false]) ZV (by simp) ?_
 simp [UQ]
 refine AF (fun m E H => ∃ i : Nat, m = ls.length - i ∧ i ≤ ls.length ∧ H = [] ∧ E = [(1, .sl 1 1 (AB [1, 2])), (5, .v (.int .i64 (JA (ls.take i)))), (8, .sl 1 1 (AB ls)), (9, .v (.int .i64 ls.length)), (10, .v (.int .i64 i))]) ls.length ⟨0, by simp [JA]⟩ ?_
 rintro J hJ m E H ⟨i, rfl, hi, rfl, rfl⟩
 by_cases h : i < ls.length
 case neg =>
  have : i = ls.length := by omega
  subst this
  simp [KB]
 have hs := UR h
 have hle : JA (ls.take i) ≤ i := by have := XJ (ls.take i); simp at this; omega
 have next : ∀ v : Int, v = JA (ls.take (i + 1)) → C6 J (ls.length - i) [(1, .sl 1 1 (AB [1, 2])), (5, .v (.int .i64 v)), (8, .sl 1 1 (AB ls)), (9, .v (.int .i64 ls.length)), (10, .v (.int .i64 (i + 1)))] [] := by
  rintro v rfl
  exact ⟨_, by omega, hJ _ _ _ ⟨i + 1, rfl, h, rfl, rfl⟩⟩
 simp [KB, h]
 refine AA (O9 (ati ls i)) ?_
 cases hd : MH (ati ls i) with
 | true =>
   simp [hd] at hs
   simp
   exact ⟨by omega, by omega, next _ (by omega)⟩
 | false =>
   simp [hd] at hs
   simp
   exact ⟨by omega, next _ (by omega)⟩
theorem Sh (W T : Int) (cs : List Bool) (ds ls : List Int) (ps : List (List Int)) (hc : cs.length < 2 ^ 40) (hl : ls.length < 2 ^ 40) :
  SoundAt Tryz.prog Lo [bkP W T cs ds ls ps] (.v (.int .i64 (Bg cs - 2 * JA ls))) [.bot] := by
 refine AE (md := md0) (ms := [false]) Sd (by simp) ?_
 have h1 := Hx cs
 have h2 := XJ ls
 have one := T5 cs hc
 have two := XK ls hl
 have ei : AB [1, 2] = [.v (.int .i64 1), .v (.int .i64 2)] := rfl
 rw [ei] at two
 simp [Lp, bj]
 (repeat' first | assumption | omega | apply And.intro)
 all_goals first
  | (refine AA one ?_; simp; (repeat' first | assumption | omega | apply And.intro) <;> (refine AA two ?_; simp; (repeat' first | assumption | omega | apply And.intro)))
  | (refine AA two ?_; simp; (repeat' first | assumption | omega | apply And.intro) <;> (refine AA one ?_; simp; (repeat' first | assumption | omega | apply And.intro)))
def dI (W T : Int) (cs : List Bool) (ds ls : List Int) (ps : List (List Int)) : Int := if Am W T cs ds ls ps then Bg cs - 2 * JA ls else -1
theorem Si (W T : Int) (cs : List Bool) (ds ls : List Int) (ps : List (List Int)) (hc : cs.length < 2 ^ 40) (hd : ds.length < 2 ^ 40) (hl : ls.length < 2 ^ 40) (hb : ps.length < 2 ^ 40) (hp : ∀ p ∈ ps, p.length < 2 ^ 40) :
  SoundAt Tryz.prog Lq [bkA W T cs ds ls ps] (.v (.int .i64 (dI W T cs ds ls ps))) [.bot] := by
 refine AE (md := md0) (ms := [false]) Sf (by simp) ?_
 simp [Lr]
 refine AA (Bm W T cs ds ls ps hc hd hl hb hp) ?_
 cases hv : Am W T cs ds ls ps with
 | false => simp [dI, hv]
 | true =>
 have h1 := Hx cs
 have h2 := XJ ls
 have hok := Cq (Nn hv)
 have hr := (Mg hok).1
 have hly : AO W T cs ls = true := by
  simp only [okB, Bool.and_eq_true] at hok; exact hok.2.2
 have one := Sg W T cs hc
 have two := Ic W T cs ls hc hl
 rw [hr] at one
 rw [hr, hly] at two
 simp at one two
 have el : dI W T cs ds ls ps = Bg cs - 2 * JA ls := by simp [dI, hv]
 rw [el]
 simp
 (repeat' first | assumption | omega | apply And.intro)
 all_goals first
  | (refine AA one ?_; simp; (repeat' first | assumption | omega | apply And.intro) <;> (refine AA two ?_; simp; (repeat' first | assumption | omega | apply And.intro)))
  | (refine AA two ?_; simp; (repeat' first | assumption | omega | apply And.intro) <;> (refine AA one ?_; simp; (repeat' first | assumption | omega | apply And.intro)))
@[simp] abbrev OU : Nat := 222
def C2 : ACode := .seq (.seq (.reg [.m 6 5, .m 7 1, .n 8 7, .o 9 (.bin .lss 0) [.t 6, .t 8]]) <| .cond (.t 9) ( .skip) ( .exit 0)) <| .seq (.block 1 ( .seq (.reg [.f 12 2 2, .l 13 12, .m 14 5, .o 15 (.iadr 1) [.t 13, .t 14], .l 16 15, .m 17 16, .mg 18 1 17 true, .mg 19 5 17 true, .g 20 (.iadr 1) [.t 18, .t 19] 17 true, .lg 21 20 17 true, .g 22 (.bin .eql 0) [.t 21, .k 0] 17 true, .o 23 .pick [.t 17, .t 22, .kb false]]) <| .cond (.t 23) ( .seq (.reg [.m 24 5, .m 4 24]) <| .ret) ( .skip))) <| .reg [.m 10 5, .o 11 (.bin .add 0) [.t 10, .k 1], .m 5 11]
def OV : ACode := .seq (.reg [.o 2 .box [.t 0], .o 4 .mv [.k 0]]) <| .seq (.seq (.reg [.o 5 .mv [.k 0]]) <| .block 0 ( .loop [(1, 1)] [1, 2, 5] C2)) <| .seq (.reg [.o 4 .mv [.k (-1)]]) <| .ret
theorem VX : cFn Tryz.prog OU 25 [.t 4] OV := ⟨Tryz.f222, _, Tryz.func222, rfl, by kernel_rfl, by kernel_rfl, by kernel_rfl, by kernel_rfl⟩
@[simp] abbrev SD : Nat := 274
def Ie : ACode := .seq (.seq (.reg [.m 20 7, .o 21 (.bin .leq 0) [.t 20, .k 2]]) <| .cond (.t 21) ( .skip) ( .exit 0)) <| .seq (.block 1 ( .seq (.reg [.la 25 3 2, .m 26 1, .m 27 6, .m 28 7, .o 29 (.call 140 []) [.t 25, .t 26, .t 27, .t 28], .m 24 29, .e 30 0 24, .e 31 1 24, .m 8 30, .m 9 31]) <| .seq (.reg [.m 32 9]) <| .cond (.t 32) ( .reg [.m 33 5, .la 34 3 2, .m 35 8, .o 36 (.call 274 []) [.t 34, .t 35], .o 37 (.app 1 24 false) [.t 33, .t 36], .m 5 37]) ( .skip))) <| .reg [.m 22 7, .o 23 (.bin .add 0) [.t 22, .k 1], .m 7 23]
def M0 : ACode := .seq (.reg [.o 2 .box [.t 0], .o 4 .mv [.c (.os 1 [])]]) <| .seq (.reg [.o 10 (.bsl 1) [], .m 5 10]) <| .seq (.reg [.la 11 3 2, .m 12 1, .o 13 (.call 222 []) [.t 11, .t 12], .m 6 13]) <| .seq (.seq (.reg [.m 14 6, .o 15 (.bin .lss 0) [.t 14, .k 0]]) <| .cond (.t 15) ( .seq (.reg [.m 16 5, .m 17 1, .o 18 (.bsl 1) [.t 17], .o 19 (.app 1 24 false) [.t 16, .t 18], .m 4 19]) <| .ret) ( .skip)) <| .seq (.seq (.reg [.o 7 .mv [.k 1]]) <| .block 0 ( .loop [(1, 1), (5, 1)] [1, 2, 5, 6, 7] Ie)) <| .seq (.reg [.m 38 5, .m 4 38]) <| .ret
theorem SE : cFn Tryz.prog SD 39 [.t 4] M0 := ⟨Tryz.f274, _, Tryz.func274, rfl, by kernel_rfl, by kernel_rfl, by kernel_rfl, by kernel_rfl⟩
@[simp] abbrev Gd : Nat := 244
abbrev Ef : Plan := .al (.o 10 (.call 274 []) [.t 7, .t 9]) ( .take (.m 2 10) <| .done)
def Kj : ACode := .seq (.reg [.o 1 .box [.t 0], .o 2 .mv [.c (.os 1 [])]]) <| .seq (.seq (.reg [.la 3 3 1, .o 4 (.call 168 []) [.t 3], .o 5 (.un .not) [.t 4]]) <| .cond (.t 5) ( .seq (.reg [.o 6 (.bsl 1) [], .m 2 6]) <| .ret) ( .skip)) <| .seq (.draw ( .alt (.la 7 3 1) ( .al (.la 8 3 1) ( .al (.o 9 (.call 146 []) [.t 8]) Ef)) <| .al (.la 8 3 1) ( .alt (.la 7 3 1) ( .al (.o 9 (.call 146 []) [.t 8]) Ef) <| .al (.o 9 (.call 146 []) [.t 8]) ( .al (.la 7 3 1) Ef)))) <| .ret
theorem Rc : cFn Tryz.prog Gd 11 [.t 2] Kj := ⟨Tryz.f244, _, Tryz.func244, rfl, by kernel_rfl, by kernel_rfl, by kernel_rfl, by kernel_rfl⟩
@[simp] abbrev E9 : Nat := 202
def De : ACode := .seq (.seq (.reg [.m 11 7, .m 12 6, .n 13 12, .o 14 (.bin .lss 0) [.t 11, .t 13], .m 15 14, .g 16 (.load true 3) [.t 2] 15 true, .mg 17 1 15 true, .g 18 (.call 121 []) [.t 16, .t 17] 15 true, .o 19 .pick [.t 15, .t 18, .kb false]]) <| .cond (.t 19) ( .skip) ( .exit 0)) <| .seq (.block 1 ( .seq (.draw ( .take (.m 23 1) <| .take (.m 24 6) <| .take (.m 25 7) <| .take (.o 26 (.iadr 1) [.t 24, .t 25]) <| .alt (.la 22 3 2) ( .al (.l 27 26) ( .al (.o 28 (.call 148 []) [.t 22, .t 23, .t 27]) ( .done))) <| .al (.l 27 26) ( .al (.la 22 3 2) ( .al (.o 28 (.call 148 []) [.t 22, .t 23, .t 27]) ( .done))))) <| .cond (.t 28) ( .reg [.m 29 5, .m 30 6, .m 31 7, .o 32 (.iadr 1) [.t 30, .t 31], .l 33 32, .o 34 (.bsl 1) [.t 33], .o 35 (.app 1 24 false) [.t 29, .t 34], .m 5 35]) ( .skip))) <| .reg [.m 20 7, .o 21 (.bin .add 0) [.t 20, .k 1], .m 7 21]
def Ig : ACode := .seq (.reg [.o 2 .box [.t 0], .o 4 .mv [.c (.os 1 [])]]) <| .seq (.reg [.o 8 (.bsl 1) [], .m 5 8]) <| .seq (.reg [.la 9 3 2, .o 10 (.call 244 []) [.t 9], .m 6 10]) <| .seq (.seq (.reg [.o 7 .mv [.k 0]]) <| .block 0 ( .loop [(1, 1), (5, 1), (6, 1)] [1, 2, 5, 6, 7] De)) <| .seq (.reg [.m 36 5, .m 4 36]) <| .ret
theorem PA : cFn Tryz.prog E9 37 [.t 4] Ig := ⟨Tryz.f202, _, Tryz.func202, rfl, by kernel_rfl, by kernel_rfl, by kernel_rfl, by kernel_rfl⟩
@[simp] abbrev M1 : Nat := 146
def M2 : ACode := .seq (.reg [.o 1 .box [.t 0], .o 2 .mv [.c (.os 1 [])]]) <| .seq (.seq (.reg [.la 3 3 1, .o 4 (.call 168 []) [.t 3], .o 5 (.un .not) [.t 4]]) <| .cond (.t 5) ( .seq (.reg [.o 6 (.bsl 1) [], .m 2 6]) <| .ret) ( .skip)) <| .seq (.reg [.f 7 2 1, .l 8 7, .n 9 8, .o 10 (.mksl 1 8 (.v (.int .i64 (0)))) [.t 9, .t 9], .m 2 10]) <| .ret
theorem US : cFn Tryz.prog M1 11 [.t 2] M2 := ⟨Tryz.f146, _, Tryz.func146, rfl, by kernel_rfl, by kernel_rfl, by kernel_rfl, by kernel_rfl⟩
end Go.Proofs.Dev
