/- Contracts of the functions of the program over slots and rows, each proved against the program itself; no condition beyond those that each theorem names. -/
import Derived.Test.YtiolbpmhnlmmdaaDoorAO
import Derived.Shelf.Strings.Search3
import Derived.Shelf.Strings.Cut
import Derived.Shelf.Strings.Split
import Derived.Shelf.Strconv.AtoiAll
import Derived.Test.YtiolbpmhnlmmdaaDoorProg
import Derived.Test.YtiolbpmhnlmmdaaDoorAK
import Derived.Test.YtiolbpmhnlmmdaaDoorAI
import Derived.Test.YtiolbpmhnlmmdaaDoorAL
import Derived.Test.YtiolbpmhnlmmdaaDoorAJ

set_option linter.unusedSimpArgs false
set_option linter.unusedVariables false

namespace Go.Proofs.Dev
set_option linter.unusedSimpArgs false
set_option maxRecDepth 100000

/-- A puzzle is drawn. -/
def puzSet (bs : List Int) (p d : Nat) (r : AV) (ups : List AV) : Prop := ∃ (W T : Int) (cs : List Bool) (ds : List Int) (q : Nat), r = .tup [regA W T cs, .os 1 (ints ds)] ∧ cs.length ≤ 37 ∧ ds.length ≤ 37 ∧ (0 ≤ W ∧ W ≤ 6 ∧ 0 ≤ T ∧ T ≤ 24) ∧ q ≤ p + d ∧ ups = [rdA bs q, .bot]

def c_puzA : ACode := (.seq (.reg [.m 32 8, .o 33 (.un .not) [.t 32], .m 34 33, .mg 35 0 34 false, .g 36 (.call 73 []) [.t 35, .k 3] 34 false,
 .g 37 (.bin .eql 0) [.t 36, .k 0] 34 false, .o 38 .pick [.t 34, .kb true, .t 37]]) <| .cond (.t 38) ( .seq (.reg [.o 39 (.bsl 1) [], .m 9 39]) <|
 .seq (.reg [.m 40 0, .o 41 (.call 73 []) [.t 40, .k 6], .o 42 (.bin .add 0) [.k 2, .t 41], .m 10 42]) <| .seq (.reg [.o 11 .mv [.k 0]]) <| .block 0 ( .loop [(9,
 1)] [0, 1, 4, 6, 9, 10, 11, 87] c_spec_l20Puzzle_L0)) ( .skip))
def c_puz_T : ACode := .seq (.seq (.reg [.m 65 0, .m 66 1, .o 67 (.bin .mul 0) [.k 2, .t 66], .o 68 (.call 86 []) [.t 65, .t 67], .m 69 68, .mg 70 9 69 true,
 .g 71 (.len false) [.t 70] 69 true, .g 72 (.bin .gtr 0) [.t 71, .k 0] 69 true, .o 73 .pick [.t 69, .t 72, .kb false]]) <| .cond (.t 73) ( .reg [.m 74 9,
 .m 75 0, .m 76 9, .n 77 76, .o 78 (.call 73 []) [.t 75, .t 77], .o 79 (.bsl 1) [.k (-1), .k 7, .k 0], .m 80 0, .o 81 (.call 73 []) [.t 80, .k 3],
 .o 82 (.iadr 1) [.t 79, .t 81], .l 83 82, .o 84 (.iadr 1) [.t 74, .t 78], .s (.store 1) [.t 84, .t 83]]) ( .skip)) <| .seq (.reg [.la 85 3 6, .m 86 9,
 .s (.store 3) [.t 4, .t 85], .m 5 86]) <| .ret
theorem puz_parts : c_spec_l20Puzzle_T1 = .seq c_puzA c_puz_T := rfl

abbrev puzH (bs : List Int) (q : Nat) (W T : Int) (cs : List Bool) (ds : List Int) : Heap :=
  [some (.box [.sl 0 1 (u8s bs), .v (.int .i64 q)]), some (.box [.v (.int .i64 0), .v (.int .i64 0), .os 1 []]), some (.box [.v (.int .i64 W), .v (.int .i64 T), .ls 1 4 0 cs.length]), some (.arr 1 (ints ds)), some (.arr 1 (bools cs))]

abbrev nd3 : List AV := [AV.v (.int .i64 (-1)), AV.v (.int .i64 7), AV.v (.int .i64 0)]
theorem ndget {x : Int} (h0 : 0 ≤ x) (h1 : x < 3) : ∃ v : Int, ∀ h : x.toNat < nd3.length, nd3[x.toNat]'h = .v (.int .i64 v) := by
  obtain rfl | rfl | rfl : x = 0 ∨ x = 1 ∨ x = 2 := by omega
  · exact ⟨-1, fun _ => rfl⟩
  · exact ⟨7, fun _ => rfl⟩
  · exact ⟨0, fun _ => rfl⟩

theorem puz_tail (bs : List Int) (p q : Nat) (n W T : Int) (cs : List Bool) (ds : List Int) (hb : bs.length ≤ 2000) (hB : Byt bs) (hp : p < 2 ^ 35) (hn0 : 0 ≤ n) (hn : n < 2 ^ 20) (hcs : cs.length ≤ 37) (hwt : 0 ≤ W ∧ W ≤ 6 ∧ 0 ≤ T ∧ T ≤ 24) (hds : ds.length ≤ 37) (hq : q ≤ p + 550) (E : ES)
    (e0 : get E 0 = .lp 0 0 0 0) (e1 : get E 1 = .v (.int .i64 n)) (e4 : get E 4 = .lp 0 1 0 0) (e6 : get E 6 = .lp 0 2 0 0) (e9 : get E 9 = .ls 1 3 0 ds.length) (e87 : get E 87 = .lp 0 0 0 0) :
    awp Tryd.prog md5 c_puz_T (FinS [RV.c 4 true 3, RV.t 5] 87 2 [true, false] (puzSet bs p 600)) E (puzH bs q W T cs ds) := by
  have fin : ∀ (ds2 : List Int) (q2 : Nat), ds2.length ≤ 37 → q2 ≤ p + 600 → puzSet bs p 600 (.tup [regA W T cs, .os 1 (ints ds2)]) [rdA bs q2, .bot] := fun ds2 q2 h1 h2 => ⟨W, T, cs, ds2, q2, rfl, hcs, h1, hwt, h2, rfl⟩
  simp [c_puz_T, e0, e1, e4, e6, e9, e87]
  refine ⟨by omega, ?_⟩
  refine call_onK (s_spec_l20Rd_odd bs q (2 * n) hb hB (by omega) (by omega)) [0] (by simp) (by simp) (by simp) ?_
  rintro _ _ ⟨b, q2, rfl, hq2, rfl⟩
  cases b with
  | false =>
    simp [get_purgeE, e0, e1, e4, e6, e9, e87]
    refine ⟨_, _, fin ds q2 hds (by omega), ?_⟩
    simp [regA, get_purgeE, e0, e1, e4, e6, e9, e87]
  | true =>
  by_cases hl : 0 < ds.length
  · simp [get_purgeE, e0, e1, e4, e6, e9, e87, hl]
    refine call_onK (s_spec_l20Rd_pick bs q2 ds.length hb hB (by omega)) [0] (by simp) (by simp) (by simp) ?_
    rintro _ _ ⟨x, x0, x1, rfl, rfl⟩
    simp [get_purgeE, e0, e1, e4, e6, e9, e87, hl]
    refine call_onK (s_spec_l20Rd_pick bs (q2 + 1) 3 hb hB (by omega)) [0] (by simp) (by simp) (by simp) ?_
    rintro _ _ ⟨y, y0, y1, rfl, rfl⟩
    have y3 : y < 3 := by omega
    obtain ⟨v, hv⟩ := ndget y0 y3
    have x3 : x < ds.length := by omega
    simp [get_purgeE, e0, e1, e4, e6, e9, e87, hl, y0, y3, hv, x0, x3, ints_set]
    refine ⟨_, _, fin (ds.set x.toNat v) (q2 + 1 + 1) (by simpa using hds) (by omega), ?_⟩
    have htk : (ints (ds.set x.toNat v)).take ds.length = ints (ds.set x.toNat v) := List.take_of_length_le (by simp)
    simp [regA, get_purgeE, e0, e1, e4, e6, e9, e87, htk]
  · have hl' : ds.length = 0 := by omega
    simp [get_purgeE, e0, e1, e4, e6, e9, e87, hl, hl']
    refine ⟨_, _, fin [] q2 (by simp) (by omega), ?_⟩
    simp [regA, get_purgeE, e0, e1, e4, e6, e9, e87]

theorem bools_getI {cs : List Bool} {i : Nat} (h : i < (bools cs).length) : (bools cs)[i]'h = .v (.bool (atb cs i)) := by
  have h2 : i < cs.length := by simpa using h
  simp [bools, atb, h2]

theorem puz_gen (bs : List Int) (p q : Nat) (n W T : Int) (cs : List Bool) (ds : List Int) (hb : bs.length ≤ 2000) (hB : Byt bs) (hp : p < 2 ^ 35) (hn0 : 0 ≤ n) (hn : n < 2 ^ 20) (hcs : cs.length ≤ 37) (hq : q ≤ p + 500) (wide : Int) (hw : 0 ≤ wide ∧ wide ≤ 100) (Qc : AExit → ES → Heap → Prop)
    (hend : ∀ (q2 : Nat) (ds : List Int) (b : Bool), q2 ≤ p + 540 → ds.length ≤ 37 → Qc (.exit 0) [(47, .v (.bool b)), (46, .v (.int .i64 cs.length)), (45, .ls 1 4 0 cs.length), (44, .lp 0 2 0 2), (43, .v (.int .i64 cs.length)), (0, .lp 0 0 0 0), (1, .v (.int .i64 n)), (4, .lp 0 1 0 0), (6, .lp 0 2 0 0), (9, .ls 1 3 0 ds.length), (10, .v (.int .i64 wide)), (11, .v (.int .i64 cs.length)), (87, .lp 0 0 0 0)] (puzH bs q2 W T cs ds)) :
    loopNode [(9, 1)] [0, 1, 4, 6, 9, 10, 11, 87] (awp Tryd.prog md5 c_spec_l20Puzzle_L0) Qc
      [(0, .lp 0 0 0 0), (1, .v (.int .i64 n)), (4, .lp 0 1 0 0), (6, .lp 0 2 0 0), (9, .ls 1 3 0 0), (10, .v (.int .i64 wide)), (11, .v (.int .i64 0)), (87, .lp 0 0 0 0)] (puzH bs q W T cs []) := by
  refine loop_by (fun m E H => ∃ (i q2 : Nat) (ds : List Int), m = cs.length - i ∧ i ≤ cs.length ∧ ds.length = i ∧ q2 ≤ q + i ∧ H = puzH bs q2 W T cs ds ∧
    E = [(0, .lp 0 0 0 0), (1, .v (.int .i64 n)), (4, .lp 0 1 0 0), (6, .lp 0 2 0 0), (9, .ls 1 3 0 ds.length), (10, .v (.int .i64 wide)), (11, .v (.int .i64 i)), (87, .lp 0 0 0 0)]) cs.length ⟨0, q, [], rfl, by omega, rfl, by omega, by simp, by simp⟩ ?_
  rintro J hJ m E H ⟨i, q2, ds, rfl, hi, hdl, hq2, rfl, rfl⟩
  by_cases h : i < cs.length
  case neg =>
    have : i = cs.length := by omega
    subst this
    simp [c_spec_l20Puzzle_L0]
    exact hend q2 ds false (by omega) (by omega)
  have next : ∀ (q3 : Nat) (v : Int), q3 ≤ q2 + 1 → again J (cs.length - i) [(0, .lp 0 0 0 0), (1, .v (.int .i64 n)), (4, .lp 0 1 0 0), (6, .lp 0 2 0 0), (9, .ls 1 3 0 (ds.length + 1)), (10, .v (.int .i64 wide)), (11, .v (.int .i64 (i + 1))), (87, .lp 0 0 0 0)]
      [some (.box [.sl 0 1 (u8s bs), .v (.int .i64 q3)]), some (.box [.v (.int .i64 0), .v (.int .i64 0), .os 1 []]), some (.box [.v (.int .i64 W), .v (.int .i64 T), .ls 1 4 0 cs.length]), some (.arr 1 (ints ds ++ [.v (.int .i64 v)])), some (.arr 1 (bools cs))] := by
    intro q3 v h3
    exact ⟨_, by omega, hJ _ _ _ ⟨i + 1, q3, ds ++ [v], rfl, h, by simp [hdl], by omega, by simp [ints_append, ints_one], by simp⟩⟩
  cases hc : atb cs i with
  | true =>
    simp [c_spec_l20Puzzle_L0, h, hc, bools_getI]
    refine call_onK (s_spec_l20Rd_pick bs q2 (if 7 < wide then 7 else wide) hb hB (by omega)) [0] (by simp) (by simp) (by simp) ?_
    rintro _ _ ⟨x, x0, x1, rfl, rfl⟩
    have n2 := next (q2 + 1) x (by omega)
    simp only [Int.natCast_add, Int.natCast_one] at n2
    simp
    (repeat' first | omega | assumption | apply And.intro)
  | false =>
    have n2 := next q2 (-1) (by omega)
    simp [c_spec_l20Puzzle_L0, h, hc, bools_getI]
    (repeat' first | omega | assumption | apply And.intro)

theorem puz_T1 (bs : List Int) (p q : Nat) (n W T : Int) (cs : List Bool) (ds : List Int) (ok : Bool) (hb : bs.length ≤ 2000) (hB : Byt bs) (hp : p < 2 ^ 35) (hn0 : 0 ≤ n) (hn : n < 2 ^ 20) (hcs : cs.length ≤ 37) (hwt : 0 ≤ W ∧ W ≤ 6 ∧ 0 ≤ T ∧ T ≤ 24) (hds : ds.length ≤ 37) (hq : q ≤ p + 450) :
    awp Tryd.prog md5 c_spec_l20Puzzle_T1 (FinS [RV.c 4 true 3, RV.t 5] 87 2 [true, false] (puzSet bs p 600))
      [(0, .lp 0 0 0 0), (1, .v (.int .i64 n)), (4, .lp 0 1 0 0), (6, .lp 0 2 0 0), (8, .v (.bool ok)), (9, .ls 1 3 0 ds.length), (87, .lp 0 0 0 0)] (puzH bs q W T cs ds) := by
  rw [puz_parts]
  cases ok with
  | false =>
    simp [c_puzA]
    refine call_onK (s_spec_l20Rd_pick bs q 6 hb hB (by omega)) [0] (by simp) (by simp) (by simp) ?_
    rintro _ _ ⟨x, x0, x1, rfl, rfl⟩
    simp
    refine ⟨by omega, ?_⟩
    refine puz_gen bs p (q + 1) n W T cs [] hb hB hp hn0 hn hcs (by omega) (2 + x) (by omega) _ ?_
    intro q2 ds2 b h1 h2
    simp
    exact puz_tail bs p q2 n W T cs ds2 hb hB hp hn0 hn hcs hwt h2 (by omega) _ rfl rfl rfl rfl rfl rfl
  | true =>
    simp [c_puzA]
    refine call_onK (s_spec_l20Rd_pick bs q 3 hb hB (by omega)) [0] (by simp) (by simp) (by simp) ?_
    rintro _ _ ⟨y, y0, y1, rfl, rfl⟩
    by_cases c0 : y = 0
    · simp [c0]
      refine call_onK (s_spec_l20Rd_pick bs (q + 1) 6 hb hB (by omega)) [0] (by simp) (by simp) (by simp) ?_
      rintro _ _ ⟨x, x0, x1, rfl, rfl⟩
      simp
      refine ⟨by omega, ?_⟩
      refine puz_gen bs p (q + 1 + 1) n W T cs [] hb hB hp hn0 hn hcs (by omega) (2 + x) (by omega) _ ?_
      intro q2 ds2 b h1 h2
      simp
      exact puz_tail bs p q2 n W T cs ds2 hb hB hp hn0 hn hcs hwt h2 (by omega) _ rfl rfl rfl rfl rfl rfl
    · simp [c0]
      exact puz_tail bs p (q + 1) n W T cs ds hb hB hp hn0 hn hcs hwt hds (by omega) _ rfl rfl rfl rfl rfl rfl

theorem puz_T2 (bs : List Int) (p q : Nat) (n W T : Int) (cs : List Bool) (ls : List Int) (ok : Bool) (hb : bs.length ≤ 2000) (hB : Byt bs) (hp : p < 2 ^ 35) (hn0 : 0 ≤ n) (hn : n < 2 ^ 20) (hcs : cs.length ≤ 37) (hwt : 0 ≤ W ∧ W ≤ 6 ∧ 0 ≤ T ∧ T ≤ 24) (hls : ls.length ≤ 37) (hq : q ≤ p + 420) :
    awp Tryd.prog md5 c_spec_l20Puzzle_T2 (FinS [RV.c 4 true 3, RV.t 5] 87 2 [true, false] (puzSet bs p 600))
      [(0, .lp 0 0 0 0), (1, .v (.int .i64 n)), (4, .lp 0 1 0 0), (6, .lp 0 2 0 0), (7, .ls 1 3 0 ls.length), (8, .v (.bool ok)), (87, .lp 0 0 0 0)] (puzH bs q W T cs ls) := by
  simp [c_spec_l20Puzzle_T2]
  (repeat' first | omega | apply And.intro) <;>
  · refine call_onK (s_spec_l20Rd_pick bs q 28 hb hB (by omega)) [0] (by simp) (by simp) (by simp) ?_
    rintro _ _ ⟨x, x0, x1, rfl, rfl⟩
    simp
    refine call_on (s_spec_MakePuzzle W T cs ls x (by omega) (by omega)) ?_
    have hml := mkI_length W T cs ls x
    generalize mkI W T cs ls x = ds at *
    simp
    exact puz_T1 bs p (q + 1) n W T cs ds ok hb hB hp hn0 hn hcs hwt (by omega) (by omega)

set_option maxHeartbeats 4000000 in
theorem s_spec_l20Puzzle (bs : List Int) (p : Nat) (n : Int) (hb : bs.length ≤ 2000) (hB : Byt bs) (hp : p < 2 ^ 35) (hn0 : 0 ≤ n) (hn : n < 2 ^ 20) :
    SoundSet Tryd.prog n_spec_l20Puzzle [rdA bs p, .v (.int .i64 n)] (puzSet bs p 600) := by
  refine fn_okS (md := md5) (ms := [true, false]) k_spec_l20Puzzle (by simp) ?_
  simp [c_spec_l20Puzzle]
  refine ⟨by omega, ?_⟩
  refine call_onK (s_spec_l20Small bs p (2 * n) hb hB (by omega) (by omega)) [0] (by simp) (by simp) (by simp) ?_
  rintro _ _ ⟨W, T, cs, q, rfl, hcs, w0, w6, t0, t24, hq, rfl⟩
  have hmax : ∀ x : Int, 0 ≤ x → 0 ≤ x ∧ 1 ≤ (if tmI W T cs < 1 then 1 else tmI W T cs) := by
    intro x hx; split <;> omega
  simp [regA]
  (repeat' first | omega | apply And.intro) <;>
  · refine call_onK (s_spec_l20Rd_pick bs q 256 hb hB (by omega)) [0] (by simp) (by simp) (by simp) ?_
    rintro _ _ ⟨x, x0, x1, rfl, rfl⟩
    simp
    (repeat' first | omega | apply And.intro) <;>
    · refine call_on (s_spec_TilingsMany W T cs (by omega)) ?_
      generalize tmI W T cs = M at *
      simp [hmax x x0]
      refine call_onK (s_spec_TilingOf W T cs (x % if M < 1 then 1 else M) (by omega)) [] (by simp) (by simp) (by simp) ?_
      rintro _ _ ⟨ls, ok, hls, rfl, rfl⟩
      simp
      exact puz_T2 bs p (q + 1) n W T cs ls ok hb hB hp hn0 hn hcs ⟨w0, w6, t0, t24⟩ (by omega) (by omega)

end Go.Proofs.Dev

namespace Go.Proofs
open Go.Shelf
open Go.RowKit in
open Go.RowKit in
open Go.RowKit Go.Lib in
open Go.RowKit Go.Lib in
open Go.RowKit Go.Lib in
def Tryd.lays146_ren : Go.Shelf.Ren := ⟨fun | 146 => 57 | 221 => 77 | 268 => 92 | 138 => 93 | 143 => 60 | 195 => 118 | 197 => 119 | 218 => 120 | 219 => 80 | 260 => 138 | 217 => 99 | 225 => 100 | 224 => 101 | 267 => 102 | 266 => 124 | 314 => 125 | n => n, fun | 9 => 9 | 31 => 62 | 3 => 3 | 4 => 4 | 0 => 0 | 105 => 129 | 21 => 21 | 5 => 5 | 46 => 117 | 119 => 151 | 139 => 154 | 138 => 153 | 146 => 138 | 51 => 137 | n => n, fun | 1 => 1 | 3 => 5 | 4 => 6 | n => n⟩
theorem Tryd.lays146 : Go.Proofs.Lays.n146 Tryd.prog Tryd.lays146_ren := {
  mixed := by kernel_rfl
  f138 := Tryd.func93.trans (congrArg some (by kernel_rfl))
  f143 := Tryd.func60.trans (congrArg some (by kernel_rfl))
  f146 := Tryd.func57.trans (congrArg some (by kernel_rfl))
  f195 := Tryd.func118.trans (congrArg some (by kernel_rfl))
  f197 := Tryd.func119.trans (congrArg some (by kernel_rfl))
  f217 := Tryd.func99.trans (congrArg some (by kernel_rfl))
  f218 := Tryd.func120.trans (congrArg some (by kernel_rfl))
  f219 := Tryd.func80.trans (congrArg some (by kernel_rfl))
  f221 := Tryd.func77.trans (congrArg some (by kernel_rfl))
  f224 := Tryd.func101.trans (congrArg some (by kernel_rfl))
  f225 := Tryd.func100.trans (congrArg some (by kernel_rfl))
  f260 := Tryd.func138.trans (congrArg some (by kernel_rfl))
  f266 := Tryd.func124.trans (congrArg some (by kernel_rfl))
  f267 := Tryd.func102.trans (congrArg some (by kernel_rfl))
  f268 := Tryd.func92.trans (congrArg some (by kernel_rfl))
  f314 := Tryd.func125.trans (congrArg some (by kernel_rfl))
  t0 := Tryd.underlying0
  a0 := Tryd.isAgg0
  z0 := Tryd.sizeOf0
  v0 := Tryd.zeroValue0
  t3 := Tryd.underlying3
  a3 := Tryd.isAgg3
  z3 := Tryd.sizeOf3
  v3 := Tryd.zeroValue3
  t4 := Tryd.underlying4
  a4 := Tryd.isAgg4
  z4 := Tryd.sizeOf4
  v4 := Tryd.zeroValue4
  t5 := Tryd.underlying5
  a5 := Tryd.isAgg5
  z5 := Tryd.sizeOf5
  v5 := Tryd.zeroValue5
  t9 := Tryd.underlying9
  a9 := Tryd.isAgg9
  z9 := Tryd.sizeOf9
  v9 := Tryd.zeroValue9
  t21 := Tryd.underlying21
  a21 := Tryd.isAgg21
  z21 := Tryd.sizeOf21
  v21 := Tryd.zeroValue21
  t31 := Tryd.underlying62
  a31 := Tryd.isAgg62
  z31 := Tryd.sizeOf62
  v31 := Tryd.zeroValue62
  t46 := Tryd.underlying117
  a46 := Tryd.isAgg117
  z46 := Tryd.sizeOf117
  v46 := Tryd.zeroValue117
  t51 := Tryd.underlying137
  a51 := Tryd.isAgg137
  z51 := Tryd.sizeOf137
  v51 := Tryd.zeroValue137
  t105 := Tryd.underlying129
  a105 := Tryd.isAgg129
  z105 := Tryd.sizeOf129
  v105 := Tryd.zeroValue129
  t119 := Tryd.underlying151
  a119 := Tryd.isAgg151
  z119 := Tryd.sizeOf151
  t138 := Tryd.underlying153
  a138 := Tryd.isAgg153
  z138 := Tryd.sizeOf153
  v138 := Tryd.zeroValue153
  t139 := Tryd.underlying154
  a139 := Tryd.isAgg154
  z139 := Tryd.sizeOf154
  v139 := Tryd.zeroValue154
  t146 := Tryd.underlying138
  a146 := Tryd.isAgg138
  z146 := Tryd.sizeOf138
  v146 := Tryd.zeroValue138
  g1 := by kernel_rfl
  g3 := by kernel_rfl
  g4 := by kernel_rfl }
open Go.RowKit Go.Lib in
/-- strings.Split. (LAID: no walk: one application.) -/
theorem Tryd.strings_Split (s sep : ByteArray) (m : Int) (w : World) (hs : s.size < 4294967281) (hm : w.cell? ⟨1, 0, none⟩ = some (.int .i64 m)) (h1 : 1 ≤ sep.size) :
    Calls Tryd.prog 57 #[.string s, .string sep] w fun e w' =>
      e = .returned (.slice (some ⟨w.heap.size, 0, none⟩) (Lib.countB s sep + 1) (Lib.countB s sep + 1)) ∧ w' = w.alloc (.cells ((Lib.splitB sep 0 (Lib.countB s sep) s).map Value.string).toArray 9) := Any.strings_Split Tryd.lays146 (by kernel_rfl) s sep m w hs hm h1
end Go.Proofs

namespace Go.Proofs.Dev
set_option linter.unusedSimpArgs false
set_option maxRecDepth 100000

@[simp] def mdT (_ : Nat) : List Bool := []

theorem numT_lo {n : Int} (h : n < 10) : numT n = [b8 (48 + n)] := by simp [numT, h]
theorem numT_hi {n : Int} (h : ¬ n < 10) : numT n = [b8 (48 + n / 10), b8 (48 + n % 10)] := by simp [numT, h]

theorem num_lo (n : Int) (h0 : 0 ≤ n) (h1 : n < 10) : SoundAt Tryd.prog n_spec_l1Number [.v (.int .i64 n)] (.v (tx (numT n))) [.bot] := by
  refine fn_ok (md := mdT) (ms := [false]) k_spec_l1Number (by simp) ?_
  have hn : ¬ n < 0 := by omega
  simp [c_spec_l1Number, hn, h1, numT_lo h1, b8, astr, u8L]
  omega

theorem s_spec_l1Number (n : Int) (h0 : 0 ≤ n) (h1 : n < 100) : SoundAt Tryd.prog n_spec_l1Number [.v (.int .i64 n)] (.v (tx (numT n))) [.bot] := by
  by_cases h : n < 10
  · exact num_lo n h0 h
  refine fn_ok (md := mdT) (ms := [false]) k_spec_l1Number (by simp) ?_
  have hn : ¬ n < 0 := by omega
  have c := num_lo (n / 10) (by omega) (by omega)
  rw [numT_lo (by omega)] at c
  simp [c_spec_l1Number, hn, h, astr, u8L]
  (repeat' first | omega | apply And.intro) <;>
  · refine call_on c ?_
    simp [h, numT_hi h, b8, astr, u8L]
    try omega

end Go.Proofs.Dev

namespace Go.Proofs.Dev
open Go.RowKit
set_option linter.unusedSimpArgs false
set_option maxRecDepth 100000

theorem kept_of_below {w w' : World} (S : List Nat) (h : Below w.heap.size w w') : Kept w.heap.size S w w' := by
  refine ⟨h.os, h.tape, h.output, h.size, fun k hk _ => h.block k hk, ?_⟩
  intro b p k hr j hj
  obtain ⟨⟨u, hu⟩, hf⟩ := hr j hj
  have hlt : b < w.heap.size := block_lt_of_cell hu
  have hb := h.block b hlt
  rw [World.cell?_of_block (w := w) (a := ⟨b, p + j, none⟩) hb, World.frozen?_of_block (w := w) (a := ⟨b, p + j, none⟩) hb]
  exact ⟨⟨u, hu⟩, hf⟩

theorem RL_vs {C : Ctx} : ∀ {xs : List Value} {S : List Nat} {us : List Value}, RL C (xs.map AV.v) S us → S = [] ∧ us = xs
  | [], S, us, h => by
    have h' : RL C [] S us := h
    rw [RL] at h'
    exact h'
  | x :: xs, S, us, h => by
    have h' : RL C (.v x :: xs.map AV.v) S us := h
    rw [RL] at h'
    obtain ⟨S1, S2, u, us', rfl, rfl, h1, h2⟩ := h'
    rw [R] at h1
    obtain ⟨rfl, rfl⟩ := RL_vs h2
    rw [h1.1, h1.2]
    exact ⟨rfl, rfl⟩

theorem RL_bts {C : Ctx} : ∀ xs : List Value, RL C (xs.map fun _ => AV.bot) [] xs
  | [] => by show RL C [] [] []; rw [RL]; exact ⟨rfl, rfl⟩
  | x :: xs => by
    show RL C (.bot :: xs.map fun _ => AV.bot) [] (x :: xs)
    rw [RL]; exact ⟨[], [], _, _, rfl, rfl, by rw [R], RL_bts xs⟩

theorem of_lib {P : Program} {f : Nat} {xs : List Value} {r : AV} (h : ∀ (w : World) (S : List Nat) (forb : Nat → Prop), GB w S forb → Calls P f xs.toArray w fun e w' => ∃ v S', e = .returned v ∧ R (cout w' S' forb) r S' v ∧ S'.Nodup ∧ (∀ x ∈ S', x < w'.heap.size ∧ w.heap.size ≤ x) ∧ Kept w.heap.size [] w w') :
    SoundAt P f (xs.map AV.v) r (xs.map fun _ => .bot) := by
  intro w forb us S hr hnd hlt hforb
  obtain ⟨rfl, rfl⟩ := RL_vs hr
  refine (h w [] forb hforb.2).mono ?_
  rintro e w' ⟨v, S', rfl, h1, h2, h3, h4⟩
  refine ⟨v, S', rfl, ?_, h2, fun x hx => ⟨(h3 x hx).1, .inl (h3 x hx).2⟩, h4⟩
  rw [RL]
  exact ⟨S', [], v, _, by simp, rfl, h1, RL_bts _⟩

theorem maxLen_cell {w : World} {S : List Nat} {forb : Nat → Prop} (h : GB w S forb) : ∃ m : Int, w.cell? ⟨1, 0, none⟩ = some (.int .i64 m) := by
  obtain ⟨u, h1, m, rfl⟩ := h.cell (g := 1) (p := intP) (by simp [gps])
  exact ⟨m, h1⟩

theorem s_strings_Split (s : List UInt8) (c : UInt8) (hs : s.length < 2 ^ 30) : SoundAt Tryd.prog 57 [.v (tx s), .v (tx [c])] (.os 1 (txs (cutL c s))) [.bot, .bot] := by
  refine of_lib (xs := [tx s, tx [c]]) fun w S forb hg => ?_
  obtain ⟨m, hm⟩ := maxLen_cell hg
  refine (Tryd.strings_Split ⟨s.toArray⟩ ⟨[c].toArray⟩ m w (by simp; omega) hm (by simp)).mono ?_
  rintro e w' ⟨rfl, rfl⟩
  have hb := splitB_cut c s
  have hl := Go.Lib.splitB_all ⟨[c].toArray⟩ (by simp) 0 _ ⟨s.toArray⟩ rfl
  have hlen : Go.Lib.countB ⟨s.toArray⟩ ⟨[c].toArray⟩ + 1 = (cutL c s).length := by
    have := congrArg List.length hb
    simp only [List.length_map] at this
    rw [← this, hl]
  rw [hb, hlen]
  have hcell : ∀ j u, ((cutL c s).map tx)[j]? = some u → (w.alloc (.cells ((cutL c s).map tx).toArray 9)).cell? ⟨w.heap.size, 0 + j, none⟩ = some u := by
    intro j u hj
    have e : (w.alloc (.cells ((cutL c s).map tx).toArray 9)).heap[w.heap.size]? = some (.cells ((cutL c s).map tx).toArray 9) := by
      show (w.heap.push _)[w.heap.size]? = _
      simp
    simp only [World.cell?, e, Nat.zero_add]
    simpa using hj
  refine ⟨_, [w.heap.size], rfl, ?_, by simp, ?_, ?_⟩
  · rw [R]
    refine ⟨some ⟨w.heap.size, 0, none⟩, (cutL c s).length, by rw [txs_length], by rw [txs_length]; exact Nat.le_refl _, ?_⟩
    right
    refine ⟨by omega, w.heap.size, 0, (cutL c s).map tx, [], rfl, rfl, ?_, ?_, hcell, sized_txs _, by rw [flatE_txs]; exact RL_txs _ _⟩
    · show w.heap.size < (w.heap.push _).size
      simp
    · intro j hj
      have hj' : j < (cutL c s).length := by omega
      refine ⟨⟨tx (cutL c s)[j], hcell j _ (by simp [hj'])⟩, ?_⟩
      have e : (w.alloc (.cells ((cutL c s).map tx).toArray 9)).heap[w.heap.size]? = some (.cells ((cutL c s).map tx).toArray 9) := by
        show (w.heap.push _)[w.heap.size]? = _
        simp
      show (w.alloc (.cells ((cutL c s).map tx).toArray 9)).frozen? ⟨w.heap.size, 0 + j, none⟩ = false
      simp only [World.frozen?, e]
      simp
  · intro x hx
    simp at hx
    subst hx
    exact ⟨by show w.heap.size < (w.heap.push _).size; simp, Nat.le_refl _⟩
  · exact ⟨rfl, rfl, rfl, by show w.heap.size ≤ (w.heap.push _).size; simp, fun k hk _ => heapOld w _ k hk, fun _ _ _ h => room_alloc h⟩

end Go.Proofs.Dev

namespace Go.Proofs.Dev
open Go.RowKit
set_option linter.unusedSimpArgs false
set_option maxRecDepth 100000

theorem cut_no {c : UInt8} : ∀ {l : List UInt8}, (∀ j : Nat, l[j]? ≠ some c) → cutL c l = [l]
  | [], _ => rfl
  | x :: l, h => by
    have h0 : x ≠ c := by have := h 0; simpa using this
    rw [cutL, if_neg h0, cut_no (l := l) (fun j => by have := h (j + 1); simpa using this)]
theorem cut_at {c : UInt8} : ∀ {l : List UInt8} {i : Nat}, l[i]? = some c → (∀ j : Nat, j < i → l[j]? ≠ some c) → cutL c l = l.take i :: cutL c (l.drop (i + 1))
  | [], i, h, _ => by simp at h
  | x :: l, 0, h, _ => by
    have : x = c := by simpa using h
    rw [cutL, if_pos this]; simp
  | x :: l, i + 1, h, h2 => by
    have h0 : x ≠ c := by have := h2 0 (by omega); simpa using this
    rw [cutL, if_neg h0, cut_at (l := l) (i := i) (by simpa using h) (fun j hj => by have := h2 (j + 1) (by omega); simpa using this)]
    simp

theorem cutL_le (c : UInt8) : ∀ s : List UInt8, (cutL c s).length ≤ s.length + 1
  | [] => by simp [cutL]
  | x :: s => by
    have := cutL_le c s
    rw [cutL]
    split
    · simp; omega
    · obtain ⟨p, ps, h⟩ := cutL_cons c s
      rw [h] at this ⊢
      simp at this ⊢; omega

theorem s_spec_l1Cut (s : List UInt8) (c : UInt8) (hs : s.length < 2 ^ 30) : SoundAt Tryd.prog n_spec_l1Cut [.v (tx s), .v (.int .u8 (c.toNat : Int))] (.os 1 (txs (cutL c s))) [.bot, .bot] := by
  refine fn_ok (md := mdT) (ms := [false, false]) k_spec_l1Cut (by simp) ?_
  simp [c_spec_l1Cut]
  refine loop_by (fun m E H => ∃ (k f : Nat) (done : List (List UInt8)), m = s.length - k ∧ f ≤ k ∧ k ≤ s.length ∧ (∀ j : Nat, f ≤ j → j < k → s[j]? ≠ some c) ∧ done ++ cutL c (s.drop f) = cutL c s ∧ done.length ≤ k ∧ H = [some (.arr 1 (txs done))] ∧
    E = [(0, .v (tx s)), (1, .v (.int .u8 (c.toNat : Int))), (5, .ls 1 0 0 done.length), (6, .v (.int .i64 (f : Int))), (7, .v (.int .i64 (k : Int)))]) s.length ⟨0, 0, [], by simp⟩ ?_
  rintro J hJ m E H ⟨k, f, done, rfl, hf, hk, hno, hc, hd, rfl, rfl⟩
  by_cases h : k < s.length
  · by_cases he : s[k]? = some c
    · have he' : s[k] = c := by rw [List.getElem?_eq_getElem h] at he; simpa using he
      have hcut : cutL c (s.drop f) = (s.drop f).take (k - f) :: cutL c (s.drop (k + 1)) := by
        rw [cut_at (i := k - f) (by rw [List.getElem?_drop, show f + (k - f) = k by omega]; exact he) (fun j hj => by rw [List.getElem?_drop]; exact hno _ (by omega) (by omega))]
        rw [List.drop_drop, show f + (k - f + 1) = k + 1 by omega]
      have nx := hJ (s.length - (k + 1)) [(0, .v (tx s)), (1, .v (.int .u8 (c.toNat : Int))), (5, .ls 1 0 0 (done.length + 1)), (6, .v (.int .i64 ((k : Int) + 1))), (7, .v (.int .i64 ((k : Int) + 1)))] [some (.arr 1 (txs done ++ [.v (tx ((s.drop f).take (k - f)))]))]
        ⟨k + 1, k + 1, done ++ [(s.drop f).take (k - f)], rfl, by omega, by omega, fun j h1 h2 => by omega, by rw [List.append_assoc, ← hc, hcut]; rfl, by simp; omega, by rw [txs_append]; rfl, by simp⟩
      simp [c_spec_l1Cut_L0, h, he']
      exact ⟨⟨by omega, by omega⟩, ⟨by omega, by omega⟩, ⟨by omega, by omega⟩, _, by omega, nx⟩
    · have he' : ¬ s[k] = c := by rw [List.getElem?_eq_getElem h] at he; simpa using he
      have nx := hJ (s.length - (k + 1)) [(0, .v (tx s)), (1, .v (.int .u8 (c.toNat : Int))), (5, .ls 1 0 0 done.length), (6, .v (.int .i64 (f : Int))), (7, .v (.int .i64 ((k : Int) + 1)))] [some (.arr 1 (txs done))]
        ⟨k + 1, f, done, rfl, by omega, by omega, fun j h1 h2 => by
          by_cases hj : j = k
          · subst hj; exact he
          · exact hno j h1 (by omega), hc, by omega, rfl, by simp⟩
      simp [c_spec_l1Cut_L0, h, he']
      exact ⟨⟨by omega, by omega⟩, _, by omega, nx⟩
  · have hk' : k = s.length := by omega
    subst hk'
    have hcut : cutL c (s.drop f) = [s.drop f] := by
      refine cut_no fun j hj => ?_
      rw [List.getElem?_drop] at hj
      have : f + j < s.length := (List.getElem?_eq_some_iff.1 hj).1
      exact hno _ (by omega) this hj
    rw [← hc, hcut, txs_append, txs_one]
    simp [c_spec_l1Cut_L0]
    refine ⟨by omega, ⟨by omega, by omega⟩, ?_⟩
    rw [List.take_of_length_le (by simp), List.take_of_length_le (l := s.drop f) (by simp)]

end Go.Proofs.Dev

namespace Go.Proofs.Dev
open Go.RowKit
set_option linter.unusedSimpArgs false
set_option maxRecDepth 100000

theorem digs_drop {s : List UInt8} {k : Nat} (n : Int) (h : k < s.length) : digsT n (s.drop k) = if 48 ≤ s[k].toNat ∧ s[k].toNat ≤ 57 then digsT (10 * n + ((s[k].toNat : Int) - 48)) (s.drop (k + 1)) else none := by
  rw [List.drop_eq_getElem_cons h, digsT]

set_option maxHeartbeats 1000000 in
theorem s_spec_l1Digits (p : List UInt8) (hp : p.length < 2 ^ 30) : SoundAt Tryd.prog n_spec_l1Digits [.v (tx p)] (.v (.int .i64 (digT p))) [.bot] := by
  refine fn_ok (md := mdT) (ms := [false]) k_spec_l1Digits (by simp) ?_
  simp [c_spec_l1Digits]
  refine call_on (s_spec_l1In (p.length : Int) 1 4) ?_
  by_cases h0 : p.length = 0
  · have e : ¬ (1 ≤ (p.length : Int) ∧ (p.length : Int) ≤ 4) := by omega
    simp [digT, h0]
  by_cases h4 : 4 < p.length
  · have e : ¬ (1 ≤ (p.length : Int) ∧ (p.length : Int) ≤ 4) := by omega
    simp [digT, h4, e]
  have e : (1 ≤ (p.length : Int) ∧ (p.length : Int) ≤ 4) := by omega
  have hl : 0 < p.length := by omega
  have hhead : p.head? = some p[0] := by rw [List.head?_eq_getElem?, List.getElem?_eq_getElem hl]
  have c48 : ((p[0].toNat : Int) = 48) ↔ p[0] = 48 := by
    have := u8_inj p[0] 48
    simpa using this
  have loop : ∀ Qc : AExit → ES → Heap → Prop, (∀ E n, get E 2 = .v (.int .i64 0) ∨ True → get E 3 = .v (.int .i64 n) → digsT 0 p = some n → Qc (.exit 0) E []) → (∀ E, get E 2 = .v (.int .i64 (-1)) → digsT 0 p = none → Qc .ret E []) →
      loopNode [] [0, 3, 4] (awp Tryd.prog mdT c_spec_l1Digits_L0) Qc [(0, .v (tx p)), (3, .v (.int .i64 0)), (4, .v (.int .i64 0))] [] := by
    intro Qc q1 q2
    refine loop_by (fun m E H => ∃ (k : Nat) (n : Int), m = p.length - k ∧ k ≤ p.length ∧ 0 ≤ n ∧ n < 10 ^ k ∧ digsT n (p.drop k) = digsT 0 p ∧ H = [] ∧ E = [(0, .v (tx p)), (3, .v (.int .i64 n)), (4, .v (.int .i64 (k : Int)))]) p.length ⟨0, 0, by simp⟩ ?_
    rintro J hJ m E H ⟨k, n, rfl, hk, hn0, hn, hd, rfl, rfl⟩
    have h10 : (10 : Int) ^ k ≤ 10000 := by
      have : k = 0 ∨ k = 1 ∨ k = 2 ∨ k = 3 ∨ k = 4 := by omega
      rcases this with rfl | rfl | rfl | rfl | rfl <;> decide
    by_cases h : k < p.length
    · rw [digs_drop n h] at hd
      by_cases hc : 48 ≤ p[k].toNat ∧ p[k].toNat ≤ 57
      · rw [if_pos hc] at hd
        have a1 : ¬ ((p[k].toNat : Int) < 48) := by omega
        have a2 : ¬ ((57 : Int) < (p[k].toNat : Int)) := by omega
        have nx := hJ (p.length - (k + 1)) [(0, .v (tx p)), (3, .v (.int .i64 (10 * n + ((p[k].toNat : Int) - 48)))), (4, .v (.int .i64 ((k : Int) + 1)))] []
          ⟨k + 1, 10 * n + ((p[k].toNat : Int) - 48), rfl, by omega, by omega, by rw [Int.pow_succ]; omega, hd, rfl, by simp⟩
        simp [c_spec_l1Digits_L0, h, a1, a2]
        have hb : (p[k].toNat : Int) ≤ 57 := by omega
        have hb0 : (48 : Int) ≤ (p[k].toNat : Int) := by omega
        exact ⟨⟨by omega, by omega⟩, ⟨by omega, by omega⟩, ⟨by omega, by omega⟩, ⟨by omega, by omega⟩, ⟨by omega, by omega⟩, _, by omega, nx⟩
      · rw [if_neg hc] at hd
        by_cases a1 : (p[k].toNat : Int) < 48
        · simp [c_spec_l1Digits_L0, h, a1]
          exact q2 _ rfl hd.symm
        · have a2 : (57 : Int) < (p[k].toNat : Int) := by omega
          simp [c_spec_l1Digits_L0, h, a1, a2]
          exact q2 _ rfl hd.symm
    · have hk' : k = p.length := by omega
      subst hk'
      rw [List.drop_length] at hd
      simp [c_spec_l1Digits_L0]
      exact q1 _ n (.inr trivial) rfl hd.symm
  by_cases h1 : 1 < p.length
  · by_cases hz : p[0] = 48
    · have hg : (1 : Int) < (p.length : Int) := by omega
      simp [digT, h0, h4, e, h1, hg, hl, hhead, hz]
    · have hg : (1 : Int) < (p.length : Int) := by omega
      have ed : digT p = (digsT 0 p).getD (-1) := by
        unfold digT
        rw [if_neg]
        rintro (h | h | ⟨_, h⟩)
        · exact h0 h
        · exact h4 h
        · rw [hhead] at h; exact hz (by simpa using h)
      rw [ed]
      have c48' : ¬ ((p[0].toNat : Int) = 48) := fun h => hz (c48.1 h)
      simp [e, h1, hg, hz, hl, c48']
      refine loop _ ?_ ?_
      · intro E n _ h3 hd
        simp [h3, hd]
      · intro E h2 hd
        simp [h2, hd]
  · have ed : digT p = (digsT 0 p).getD (-1) := by
      unfold digT
      rw [if_neg]
      rintro (h | h | ⟨h, _⟩)
      · exact h0 h
      · exact h4 h
      · exact h1 h
    rw [ed]
    have hg : ¬ (1 : Int) < (p.length : Int) := by omega
    simp [e, h1, hg]
    refine loop _ ?_ ?_
    · intro E n _ h3 hd
      simp [h3, hd]
    · intro E h2 hd
      simp [h2, hd]

end Go.Proofs.Dev

namespace Go.Proofs.Dev
open Go.RowKit
set_option linter.unusedSimpArgs false
set_option maxRecDepth 100000

theorem rowC_take {W x : Nat} (cs : List Bool) (ds : List Int) (y : Nat) (h : x < W) : (rowC W cs ds y).take (x + 1) = (rowC W cs ds y).take x ++ [sgC cs ds (y * W + x)] := by
  rw [List.take_succ_eq_append_getElem (by simp [h])]
  simp [rowC]
theorem rowsC_ne (W : Nat) (cs : List Bool) (ds : List Int) {n : Nat} (h : 0 < n) : rowsC W cs ds n ≠ [] := by
  intro e
  have := congrArg List.length e
  simp at this
  omega
theorem rowsC_join (W : Nat) (cs : List Bool) (ds : List Int) {n : Nat} (h : 0 < n) : joinL 47 (rowsC W cs ds (n + 1)) = rowC W cs ds n ++ 47 :: joinL 47 (rowsC W cs ds n) := by
  rw [rowsC, joinL_cons 47 _ (rowsC_ne W cs ds h)]
theorem rowsC_join1 (W : Nat) (cs : List Bool) (ds : List Int) : joinL 47 (rowsC W cs ds 1) = rowC W cs ds 0 := rfl
theorem join_len {W : Nat} (cs : List Bool) (ds : List Int) : ∀ n : Nat, (joinL 47 (rowsC W cs ds n)).length ≤ n * (W + 1)
  | 0 => by simp [rowsC, joinL]
  | 1 => by rw [rowsC_join1]; simp
  | n + 2 => by
    rw [rowsC_join W cs ds (by omega)]
    have := join_len cs ds (n + 1) (W := W)
    have e : (n + 2) * (W + 1) = (n + 1) * (W + 1) + (W + 1) := by rw [show n + 2 = n + 1 + 1 by omega, Nat.succ_mul]
    simp
    omega

abbrev ptE (o : List UInt8) (ds : List Int) (y : Int) : ES := [(1, .sl 1 1 (ints ds)), (2, .lp 0 0 0 0), (5, .v (tx o)), (6, .v (.int .i64 y))]
abbrev ptE2 (o : List UInt8) (ds : List Int) (y x : Int) : ES := [(1, .sl 1 1 (ints ds)), (2, .lp 0 0 0 0), (5, .v (tx o)), (6, .v (.int .i64 y)), (7, .v (.int .i64 x))]

set_option maxHeartbeats 2000000 in
theorem pt_L0 (W T : Nat) (cs : List Bool) (ds : List Int) (o : List UInt8) (y : Nat) (hW : W ≤ 6) (hT : T ≤ 6) (hy : y < T) (hl : cs.length = T * W) (hd : digsB cs ds = true) (ho : o.length ≤ 100) (Qc : AExit → ES → Heap → Prop)
    (hend : ∀ E, get E 1 = .sl 1 1 (ints ds) → get E 2 = .lp 0 0 0 0 → get E 5 = .v (tx (o ++ rowC W cs ds y)) → get E 6 = .v (.int .i64 y) → Qc (.exit 2) E [some (.box [.v (.int .i64 W), .v (.int .i64 T), .sl 1 1 (bools cs)])]) :
    loopNode [(1, 1)] [1, 2, 5, 6, 7] (awp Tryd.prog mdT c_spec_PuzzleText_L0) Qc (ptE2 o ds y 0) [some (.box [.v (.int .i64 W), .v (.int .i64 T), .sl 1 1 (bools cs)])] := by
  refine loop_by (fun m E H => ∃ x : Nat, m = W - x ∧ x ≤ W ∧ E = ptE2 (o ++ (rowC W cs ds y).take x) ds y x ∧ H = [some (.box [.v (.int .i64 W), .v (.int .i64 T), .sl 1 1 (bools cs)])]) W ⟨0, by simp⟩ ?_
  rintro J hJ m E H ⟨x, rfl, hx, rfl, rfl⟩
  by_cases h : x < W
  · have h' : (x : Int) < (W : Int) := by omega
    have hc := cell_lt (T := T) hy h
    have hdd : ds.length = cs.length := by simp only [digsB, Bool.and_eq_true, decide_eq_true_eq] at hd; exact hd.1
    have hp : T * W ≤ 6 * 6 := Nat.mul_le_mul hT hW
    have e1 : (y : Int) * (W : Int) = ((y * W : Nat) : Int) := by simp
    have hk1 : (y * W + x : Int) < (cs.length : Int) := by rw [e1]; omega
    have hk2 : (y * W + x : Int) < (ds.length : Int) := by rw [e1]; omega
    have hk0 : (0 : Int) ≤ (y : Int) * (W : Int) := by rw [e1]; omega
    have hk3 : (y : Int) * (W : Int) ≤ 36 := by rw [e1]; omega
    have e2 : ((y : Int) * (W : Int) + (x : Int)) = ((y * W + x : Nat) : Int) := by rw [Int.natCast_add, e1]
    have tk := rowC_take cs ds y h
    have hlt : ((rowC W cs ds y).take x).length = x := by simp; omega
    have nx := hJ (W - (x + 1)) (ptE2 (o ++ (rowC W cs ds y).take (x + 1)) ds y ((x : Int) + 1)) _ ⟨x + 1, rfl, h, by simp, rfl⟩
    rw [tk, ← List.append_assoc] at nx
    generalize hr : o ++ (rowC W cs ds y).take x = r at *
    have hrl : r.length ≤ 106 := by rw [← hr]; simp; omega
    have hdg : digAt cs ds ((y : Int) * (W : Int) + (x : Int)) = true := by
      simp only [digsB, Bool.and_eq_true, decide_eq_true_eq, allB_iff] at hd
      rw [e2]
      exact hd.2 (y * W + x) (by omega)
    have es : sgC cs ds (y * W + x) = if atb cs ((y : Int) * (W : Int) + (x : Int)) then b8 (48 + ati ds ((y : Int) * (W : Int) + (x : Int))) else 46 := by rw [e2]; rfl
    rw [es] at nx
    unfold digAt at hdg
    cases hb : atb cs ((y : Int) * (W : Int) + (x : Int)) with
    | true =>
      rw [hb] at nx hdg
      simp at hdg nx
      have ln := s_spec_l1Number (ati ds ((y : Int) * (W : Int) + (x : Int))) (by omega) (by omega)
      rw [numT_lo (by omega)] at ln
      simp [c_spec_PuzzleText_L0, h', hb, hk1, hk2]
      (repeat' first | omega | apply And.intro) <;>
      · refine call_on ln ?_
        simp
        (repeat' first | omega | apply And.intro) <;> exact ⟨_, by omega, nx⟩
    | false =>
      rw [hb] at nx
      simp at nx
      simp [c_spec_PuzzleText_L0, h', hb, hk1, hk2]
      (repeat' first | omega | apply And.intro) <;> exact ⟨_, by omega, nx⟩
  · have : x = W := by omega
    subst this
    simp [c_spec_PuzzleText_L0]
    exact hend _ rfl rfl (by rw [List.take_of_length_le (by simp)]; rfl) rfl

set_option maxHeartbeats 2000000 in
theorem s_spec_PuzzleText (W T : Nat) (cs : List Bool) (ds : List Int) (hb : cs.length < 2 ^ 40) (hd : ds.length < 2 ^ 40) (hT : T < 2 ^ 40) :
    SoundAt Tryd.prog n_spec_PuzzleText [.agg [.v (.int .i64 W), .v (.int .i64 T), .sl 1 1 (bools cs)], .sl 1 1 (ints ds)] (.v (tx (ptext W T cs ds))) [.bot, .bot] := by
  have pv := s_spec_PuzzleValid W T cs ds hb hd
  refine fn_ok (md := mdT) (ms := [false, false]) k_spec_PuzzleText (by simp) ?_
  simp [c_spec_PuzzleText]
  refine ⟨by omega, ?_⟩
  by_cases hv : (regB W T cs && digsB cs ds) = true
  · rw [hv] at pv
    rw [ptext, if_pos hv]
    simp only [Int.toNat_natCast]
    simp only [Bool.and_eq_true] at hv
    obtain ⟨hr, hg⟩ := hv
    simp only [regB, decide_eq_true_eq] at hr
    obtain ⟨w1, w2, t1, t2, hl, _⟩ := hr
    have hl' : cs.length = T * W := by
      have : (cs.length : Int) = ((T * W : Nat) : Int) := by rw [hl, Int.natCast_mul, Int.mul_comm]
      exact Int.ofNat.inj this
    have tot := join_len cs ds T (W := W)
    have hp : T * (W + 1) ≤ 6 * 7 := Nat.mul_le_mul (by omega) (by omega)
    refine loop_by (fun m E H => ∃ (n : Nat) (o : List UInt8), n = m ∧ n ≤ T ∧ o ++ joinL 47 (rowsC W cs ds n) = joinL 47 (rowsC W cs ds T) ∧ E = ptE o ds ((n : Int) - 1) ∧ H = [some (.box [.v (.int .i64 W), .v (.int .i64 T), .sl 1 1 (bools cs)])]) T ⟨T, [], by simp⟩ ?_
    rintro J hJ m E H ⟨n, o, rfl, hn, ho, rfl, rfl⟩
    cases n with
    | zero =>
      have ho' : o = joinL 47 (rowsC W cs ds T) := by simpa [rowsC, joinL] using ho
      subst ho'
      simp [c_spec_PuzzleText_L1]
    | succ n =>
      have lo : o.length ≤ 42 := by have := congrArg List.length ho; rw [List.length_append] at this; omega
      have e1 : ((n + 1 : Nat) : Int) - 1 = (n : Int) := by omega
      rw [e1]
      have body := fun Qc hend => pt_L0 W T cs ds o n (by omega) (by omega) (by omega) hl' hg (by omega) Qc hend
      simp [c_spec_PuzzleText_L1]
      refine call_on pv ?_
      simp
      refine body _ ?_
      intro E g1 g2 g5 g6
      have lr : (o ++ rowC W cs ds n).length ≤ 48 := by simp; omega
      cases n with
      | zero =>
        have nx := hJ 0 (ptE (o ++ rowC W cs ds 0) ds (-1)) _ ⟨0, _, rfl, by omega, by rw [← ho, rowsC_join1]; simp [rowsC, joinL], rfl, rfl⟩
        simp [g1, g2, g5, g6]
        exact ⟨_, by omega, nx⟩
      | succ n =>
        have nx := hJ (n + 1) (ptE (o ++ rowC W cs ds (n + 1) ++ [47]) ds (n : Int)) _ ⟨n + 1, o ++ rowC W cs ds (n + 1) ++ [47], rfl, by omega, by rw [← ho, rowsC_join W cs ds (by omega : 0 < n + 1)]; simp, by rw [show ((n + 1 : Nat) : Int) - 1 = (n : Int) by omega], rfl⟩
        have hpos : (0 : Int) < (n : Int) + 1 := by omega
        generalize o ++ rowC W cs ds (n + 1) = r at *
        simp [g1, g2, g5, g6, hpos]
        exact ⟨by omega, by omega, _, by omega, nx⟩
  · have hv' : (regB W T cs && digsB cs ds) = false := by simpa using hv
    rw [ptext, if_neg hv]
    rw [hv'] at pv
    refine loop_by (fun m E H => m = 0 ∧ E = ptE [] ds ((T : Int) - 1) ∧ H = [some (.box [.v (.int .i64 W), .v (.int .i64 T), .sl 1 1 (bools cs)])]) 0 ⟨rfl, rfl, rfl⟩ ?_
    rintro J hJ m E H ⟨rfl, rfl, rfl⟩
    by_cases h0 : 1 ≤ T
    · have h0' : (1 : Int) ≤ (T : Int) := by omega
      simp [c_spec_PuzzleText_L1, h0', h0]
      refine call_on pv ?_
      simp
    · have h0' : ¬ (1 : Int) ≤ (T : Int) := by omega
      have : T = 0 := by omega
      subst this
      simp [c_spec_PuzzleText_L1]

end Go.Proofs.Dev

namespace Go.Proofs.Dev
open Go.RowKit
set_option linter.unusedSimpArgs false
set_option maxRecDepth 100000


def nd1 (c : UInt8) : Bool := ((c.toNat : Int) != 46)
def d1 (c : UInt8) : Int := digT [c]
theorem nd1_eq : nd1 = fun c => !decide (c.toNat = 46) := by
  funext c
  unfold nd1
  by_cases h : c.toNat = 46
  · simp [h]
  · have : ¬ (c.toNat : Int) = 46 := by omega
    simp [h, this]

abbrev rpE (s : List UInt8) (ps : List (List UInt8)) (k : Nat) (y : Int) : ES := [(0, .v (tx s)), (2, .lp 0 0 0 0), (5, .ls 1 1 0 ps.length), (6, .lp 0 2 0 0), (7, .ls 1 3 0 k), (8, .v (.int .i64 y))]
abbrev rpE2 (s : List UInt8) (ps : List (List UInt8)) (k : Nat) (y x : Int) : ES := [(0, .v (tx s)), (2, .lp 0 0 0 0), (5, .ls 1 1 0 ps.length), (6, .lp 0 2 0 0), (7, .ls 1 3 0 k), (8, .v (.int .i64 y)), (9, .v (.int .i64 x))]
def rpH (ps : List (List UInt8)) (w t : Int) (fl : List UInt8) : Heap :=
  if fl = [] then [some (.box [.v (.int .i64 0), .v (.int .i64 0), .os 1 []]), some (.arr 1 (txs ps)), some (.box [.v (.int .i64 w), .v (.int .i64 t), .os 1 []]), some (.arr 1 [])]
  else [some (.box [.v (.int .i64 0), .v (.int .i64 0), .os 1 []]), some (.arr 1 (txs ps)), some (.box [.v (.int .i64 w), .v (.int .i64 t), .ls 1 4 0 fl.length]), some (.arr 1 (ints (fl.map d1))), some (.arr 1 (bools (fl.map nd1)))]
theorem rpH_nil (ps : List (List UInt8)) (w t : Int) : rpH ps w t [] = [some (.box [.v (.int .i64 0), .v (.int .i64 0), .os 1 []]), some (.arr 1 (txs ps)), some (.box [.v (.int .i64 w), .v (.int .i64 t), .os 1 []]), some (.arr 1 [])] := rfl
theorem rpH_cons (ps : List (List UInt8)) (w t : Int) {fl : List UInt8} (h : fl ≠ []) : rpH ps w t fl = [some (.box [.v (.int .i64 0), .v (.int .i64 0), .os 1 []]), some (.arr 1 (txs ps)), some (.box [.v (.int .i64 w), .v (.int .i64 t), .ls 1 4 0 fl.length]), some (.arr 1 (ints (fl.map d1))), some (.arr 1 (bools (fl.map nd1)))] := if_neg h
theorem rpH_one (ps : List (List UInt8)) (w t : Int) (fl : List UInt8) : (rpH ps w t fl)[1]? = some (some (.arr 1 (txs ps))) := by unfold rpH; split <;> rfl

set_option maxHeartbeats 4000000 in
theorem rp_L0 (s : List UInt8) (ps : List (List UInt8)) (w t : Int) (fl : List UInt8) (y : Nat) (hy : y < ps.length) (hp : ps[y].length < 2 ^ 31) (hf : fl.length < 2 ^ 31) (Qc : AExit → ES → Heap → Prop)
    (hend : ∀ E, get E 0 = .v (tx s) → get E 2 = .lp 0 0 0 0 → get E 5 = .ls 1 1 0 ps.length → get E 6 = .lp 0 2 0 0 → get E 7 = .ls 1 3 0 (fl ++ ps[y]).length → get E 8 = .v (.int .i64 y) → Qc (.exit 2) E (rpH ps w t (fl ++ ps[y]))) :
    loopNode [(5, 1), (7, 1)] [0, 2, 5, 6, 7, 8, 9] (awp Tryd.prog mdT c_spec_ReadPuzzle_L0) Qc (rpE2 s ps fl.length y 0) (rpH ps w t fl) := by
  refine loop_by (fun m E H => ∃ x : Nat, m = ps[y].length - x ∧ x ≤ ps[y].length ∧ E = rpE2 s ps (fl ++ ps[y].take x).length y x ∧ H = rpH ps w t (fl ++ ps[y].take x)) ps[y].length ⟨0, by simp⟩ ?_
  rintro J hJ m E H ⟨x, rfl, hx, rfl, rfl⟩
  by_cases h : x < ps[y].length
  · have h' : (x : Int) < (ps[y].length : Int) := by omega
    have dg := s_spec_l1Digits [ps[y][x]] (by simp)
    have hx1 : (0 : Int) ≤ (x : Int) + 1 := by omega
    have hx2 : x + 1 ≤ ps[y].length := h
    have nx := hJ (ps[y].length - (x + 1)) (rpE2 s ps (fl ++ ps[y].take (x + 1)).length y ((x : Int) + 1)) _ ⟨x + 1, rfl, h, by simp, rfl⟩
    have hl : (fl ++ ps[y].take x).length < 2 ^ 32 := by simp; omega
    have e1 : fl ++ ps[y].take (x + 1) = (fl ++ ps[y].take x) ++ [ps[y][x]] := by rw [List.take_succ_eq_append_getElem h]; simp
    rw [e1] at nx
    have et : List.take (x + 1 - x) (List.drop x ps[y]) = [ps[y][x]] := by
      rw [show x + 1 - x = 1 by omega, List.drop_eq_getElem_cons h]
      rfl
    have et1 : List.take 1 (List.drop x ps[y]) = [ps[y][x]] := by rw [← et, show x + 1 - x = 1 by omega]
    generalize fl ++ ps[y].take x = f at *
    rw [rpH_cons _ _ _ (by simp)] at nx
    simp only [List.map_append, List.map_cons, List.map_nil, ints_append, bools_append, ints_one, bools_one, List.length_append, List.length_cons, List.length_nil, d1, nd1] at nx
    by_cases hf0 : f = []
    · subst hf0
      rw [rpH_nil]
      simp at nx
      simp [c_spec_ReadPuzzle_L0, hy, h, h', hx1, hx2]
      (repeat' first | omega | apply And.intro) <;>
      · refine call_on dg ?_
        simp
        (repeat' first | exact et | exact et1 | omega | exact ⟨_, by omega, nx⟩ | apply And.intro)
    · rw [rpH_cons _ _ _ hf0]
      simp [c_spec_ReadPuzzle_L0, hy, h, h', hx1, hx2]
      (repeat' first | omega | apply And.intro) <;>
      · refine call_on dg ?_
        simp
        (repeat' first | exact et | exact et1 | omega | exact ⟨_, by omega, nx⟩ | apply And.intro)
  · have : x = ps[y].length := by omega
    subst this
    rw [List.take_length]
    simp [c_spec_ReadPuzzle_L0, hy, rpH_one]
    apply hend
    all_goals (first | rfl | simp)

/-- What is read of a text. -/
def rpA (s : List UInt8) : AV := if riB s = true then .tup [.agg [.v (.int .i64 (wT s)), .v (.int .i64 (tT s)), .os 1 (bools (csT s))], .os 1 (ints (dsI s)), .v (.bool true)]
  else .tup [.agg [.v (.int .i64 0), .v (.int .i64 0), .os 1 []], .os 1 [], .v (.bool false)]

theorem flat_le (c : UInt8) : ∀ s : List UInt8, (cutL c s).reverse.flatten.length ≤ s.length
  | [] => by simp [cutL]
  | x :: s => by
    have ih := flat_le c s
    obtain ⟨p, ps, e⟩ := cutL_cons c s
    rw [cutL]
    split
    · simp at ih ⊢; omega
    · rw [e] at ih ⊢
      simp at ih ⊢
      omega

set_option maxHeartbeats 2000000 in
theorem s_spec_ReadPuzzle (s : List UInt8) (hs : s.length < 2 ^ 30) : SoundAt Tryd.prog n_spec_ReadPuzzle [.v (tx s)] (rpA s) [.bot] := by
  have cu := s_spec_l1Cut s 47 hs
  have hlen := cutL_le 47 s
  have hfl : (flT s).length ≤ s.length := flat_le 47 s
  have pt := s_spec_PuzzleText (wT s) (tT s) (csT s) (dsT s) (by simp [csT]; omega) (by simp [dsT]; omega) (by unfold tT; omega)
  have hri := rp_ri s
  have hmap : rpH (cutL 47 s) (wT s) (tT s) (flT s) = if flT s = [] then _ else _ := rfl
  have hrp : rpB s = (decide (s ≠ []) && decide (ptext (wT s) (tT s) (csT s) (dsT s) = s)) := rfl
  have e1 : (flT s).map d1 = dsT s := rfl
  have e2 : (flT s).map nd1 = csT s := by rw [nd1_eq]; rfl
  have e3 : riB s = true → dsT s = dsI s := fun h => dsT_ok (by simp only [riB, Bool.and_eq_true] at h; exact h.1.2)
  have e4 : flT s = (cutL 47 s).reverse.flatten := rfl
  have e5 : wT s = (nth (cutL 47 s) 0).length := rfl
  have e6 : tT s = (cutL 47 s).length := rfl
  have hea := cutL_each 47 s
  refine fn_ok (md := mdT) (ms := [false]) k_spec_ReadPuzzle (by simp) ?_
  simp [c_spec_ReadPuzzle]
  refine call_on cu ?_
  obtain ⟨p, qs, hps⟩ := cutL_cons 47 s
  have h0 : 0 < (cutL 47 s).length := by rw [hps]; simp
  generalize cutL 47 s = ps at *
  have hg : ps[0] = nth ps 0 := by simp [nth, h0]
  have hw : (ps[0].length : Int) = (wT s : Int) := by rw [hg, e5]
  simp [h0]
  refine ⟨by omega, ?_⟩
  refine loop_by (fun m E H => ∃ (n : Nat) (f : List UInt8), n = m ∧ n ≤ ps.length ∧ f ++ (ps.take n).reverse.flatten = flT s ∧ E = rpE s ps f.length ((n : Int) - 1) ∧ H = rpH ps (wT s) (tT s) f) ps.length ⟨ps.length, [], by simp [e4, rpH_nil, hw, e6]⟩ ?_
  rintro J hJ m E H ⟨n, f, rfl, hn, hf, rfl, rfl⟩
  have hfb : f.length ≤ (flT s).length := by rw [← hf]; simp
  cases n with
  | succ n =>
    have hn' : n < ps.length := by omega
    have hpn := hea ps[n] (List.getElem_mem hn')
    have hc : ((n + 1 : Nat) : Int) - 1 = (n : Int) := by omega
    have body := fun Qc hend => rp_L0 s ps (wT s) (tT s) f n hn' (by omega) (by omega) Qc hend
    have nx := hJ n (rpE s ps (f ++ ps[n]).length ((n : Int) - 1)) _ ⟨n, f ++ ps[n], rfl, by omega, by rw [← hf, List.take_succ_eq_append_getElem hn', List.reverse_append]; simp, rfl, rfl⟩
    rw [hc]
    have tail : ∀ (E : ES), get E 0 = .v (tx s) → get E 2 = .lp 0 0 0 0 → get E 5 = .ls 1 1 0 ps.length → get E 6 = .lp 0 2 0 0 → get E 7 = .ls 1 3 0 (f ++ ps[n]).length → get E 8 = .v (.int .i64 n) → ∀ Q1,
        awp Tryd.prog mdT (ACode.reg [AOper.m 25 8, AOper.o 26 (AK.bin BinOp.sub 0) [Opd.t 25, Opd.k 1], AOper.m 8 26]) (loopQ [(5, 1), (7, 1)] [0, 2, 5, 6, 7, 8] J (n + 1) Q1) E (rpH ps (wT s) (tT s) (f ++ ps[n])) := by
      intro E g0 g2 g5 g6 g7 g8 Q1
      have lb : (f ++ ps[n]).length < 2 ^ 31 := by simp; omega
      generalize f ++ ps[n] = f2 at *
      by_cases hf2 : f2 = []
      · subst hf2
        rw [rpH_nil] at nx ⊢
        simp [g0, g2, g5, g6, g7, g8]
        exact ⟨by omega, _, by omega, nx⟩
      · rw [rpH_cons _ _ _ hf2] at nx ⊢
        simp [g0, g2, g5, g6, g7, g8]
        exact ⟨by omega, _, by omega, nx⟩
    by_cases hf0 : f = []
    · subst hf0
      rw [rpH_nil] at body ⊢
      simp [c_spec_ReadPuzzle_L1]
      refine body _ ?_
      intro E g0 g2 g5 g6 g7 g8
      simp only [ablock_exit, if_true, athen_normal]
      exact tail E g0 g2 g5 g6 g7 g8 _
    · rw [rpH_cons _ _ _ hf0] at body ⊢
      simp [c_spec_ReadPuzzle_L1]
      refine body _ ?_
      intro E g0 g2 g5 g6 g7 g8
      simp only [ablock_exit, if_true, athen_normal]
      exact tail E g0 g2 g5 g6 g7 g8 _
  | zero =>
    have hf' : f = flT s := by simpa using hf
    subst hf'
    have rA : rpA s = if rpB s = true then .tup [.agg [.v (.int .i64 (wT s)), .v (.int .i64 (tT s)), .os 1 (bools (csT s))], .os 1 (ints (dsT s)), .v (.bool true)]
        else .tup [.agg [.v (.int .i64 0), .v (.int .i64 0), .os 1 []], .os 1 [], .v (.bool false)] := by
      rw [hri, rpA]
      by_cases h : riB s = true
      · rw [if_pos h, if_pos h, e3 h]
      · rw [if_neg h, if_neg h]
    rw [rA]
    have lc : (csT s).length = (flT s).length := by simp [csT]
    have ld : (dsT s).length = (flT s).length := by simp [dsT]
    have lds : (dsT s).length = (csT s).length := by omega
    have tk1 : List.take (csT s).length (ints (dsT s)) = ints (dsT s) := List.take_of_length_le (by simp; omega)
    have tk2 : List.take (csT s).length (bools (csT s)) = bools (csT s) := List.take_of_length_le (by simp)
    clear hJ hri rA e3 e4 hf
    by_cases hs0 : s = []
    · have hb : rpB s = false := by rw [hrp]; simp [hs0]
      rw [hb]
      subst hs0
      have h1 : flT [] ≠ [] ∨ flT [] = [] := by by_cases h : flT [] = [] <;> simp [h]
      rcases h1 with h1 | h1
      · exact absurd (show flT [] = [] from rfl) h1
      · rw [h1, rpH_nil]
        simp [c_spec_ReadPuzzle_L1]
    · by_cases hp : ptext (wT s) (tT s) (csT s) (dsT s) = s
      · have hb : rpB s = true := by rw [hrp]; simp [hs0, hp]
        rw [hb]
        rw [hp] at pt
        by_cases h1 : flT s = []
        · have c0 : csT s = [] := by rw [csT, h1]; rfl
          have d0 : dsT s = [] := by rw [dsT, h1]; rfl
          rw [c0, d0] at pt ⊢
          rw [h1, rpH_nil]
          simp at pt
          simp [c_spec_ReadPuzzle_L1, hs0]
          refine call_on pt ?_
          simp
        · rw [rpH_cons _ _ _ h1, e1, e2, ← lc]
          simp [c_spec_ReadPuzzle_L1, hs0]
          refine call_on pt ?_
          simp [tk1, tk2, hs0, lds]
      · have hb : rpB s = false := by rw [hrp]; simp [hp]
        rw [hb]
        generalize ptext (wT s) (tT s) (csT s) (dsT s) = o at *
        by_cases h1 : flT s = []
        · have c0 : csT s = [] := by rw [csT, h1]; rfl
          have d0 : dsT s = [] := by rw [dsT, h1]; rfl
          rw [c0, d0] at pt
          rw [h1, rpH_nil]
          simp at pt
          simp [c_spec_ReadPuzzle_L1, hs0]
          refine call_on pt ?_
          simp [hp]
        · rw [rpH_cons _ _ _ h1, e1, e2, ← lc]
          simp [c_spec_ReadPuzzle_L1, hs0]
          refine call_on pt ?_
          simp [tk1, tk2, hs0, hp, lds]

end Go.Proofs.Dev
