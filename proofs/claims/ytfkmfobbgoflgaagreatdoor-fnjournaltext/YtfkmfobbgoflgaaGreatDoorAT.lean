/- Contracts of the functions of the program over slots and rows, each proved against the program itself; no condition beyond those that each theorem names. -/
import Derived.Test.YtfkmfobbgoflgaaGreatDoorAS
import Derived.Test.YtfkmfobbgoflgaaGreatDoorAN
import Derived.Test.YtfkmfobbgoflgaaGreatDoorAL
import Derived.Test.YtfkmfobbgoflgaaGreatDoorProg
import Derived.Test.YtfkmfobbgoflgaaGreatDoorAH
import Derived.Test.YtfkmfobbgoflgaaGreatDoorAK

set_option linter.unusedSimpArgs false
set_option linter.unusedVariables false

namespace Go.Proofs.Dev
set_option linter.unusedSimpArgs false
set_option maxRecDepth 100000

/-- A puzzle is drawn. -/
def puzSet (bs : List Int) (p d : Nat) (r : AV) (ups : List AV) : Prop := ∃ (W T : Int) (cs : List Bool) (ds : List Int) (q : Nat), r = .tup [regA W T cs, .os 1 (ints ds)] ∧ cs.length ≤ 37 ∧ ds.length ≤ 37 ∧ q ≤ p + d ∧ ups = [rdA bs q, .bot]

def c_puzA : ACode := (.seq (.reg [.m 32 8, .o 33 (.un .not) [.t 32], .m 34 33, .mg 35 0 34 false, .g 36 (.call 54 []) [.t 35, .k 3] 34 false,
 .g 37 (.bin .eql 0) [.t 36, .k 0] 34 false, .o 38 .pick [.t 34, .kb true, .t 37]]) <| .cond (.t 38) ( .seq (.reg [.o 39 (.bsl 1) [], .m 9 39]) <|
 .seq (.reg [.m 40 0, .o 41 (.call 54 []) [.t 40, .k 6], .o 42 (.bin .add 0) [.k 2, .t 41], .m 10 42]) <| .seq (.reg [.o 11 .mv [.k 0]]) <| .block 0 ( .loop [(9,
 1)] [0, 1, 4, 6, 9, 10, 11, 87] c_spec_l20Puzzle_L0)) ( .skip))
def c_puz_T : ACode := .seq (.seq (.reg [.m 65 0, .m 66 1, .o 67 (.bin .mul 0) [.k 2, .t 66], .o 68 (.call 45 []) [.t 65, .t 67], .m 69 68, .mg 70 9 69 true,
 .g 71 (.len false) [.t 70] 69 true, .g 72 (.bin .gtr 0) [.t 71, .k 0] 69 true, .o 73 .pick [.t 69, .t 72, .kb false]]) <| .cond (.t 73) ( .reg [.m 74 9,
 .m 75 0, .m 76 9, .n 77 76, .o 78 (.call 54 []) [.t 75, .t 77], .o 79 (.bsl 1) [.k (-1), .k 7, .k 0], .m 80 0, .o 81 (.call 54 []) [.t 80, .k 3],
 .o 82 (.iadr 1) [.t 79, .t 81], .l 83 82, .o 84 (.iadr 1) [.t 74, .t 78], .s (.store 1) [.t 84, .t 83]]) ( .skip)) <| .seq (.reg [.la 85 3 6, .m 86 9,
 .s (.store 3) [.t 4, .t 85], .m 5 86]) <| .ret
theorem puz_parts : c_spec_l20Puzzle_T1 = .seq c_puzA c_puz_T := rfl

abbrev puzH (bs : List Int) (q : Nat) (W T : Int) (cs : List Bool) (ds : List Int) : Heap :=
  [some (.box [.sl 0 1 (u8s bs), .v (.int .i64 q)]), some (.box [.v (.int .i64 0), .v (.int .i64 0), .os 1 []]), some (.box [.v (.int .i64 W), .v (.int .i64 T), .ls 1 4 0 cs.length]), some (.arr 1 (ints ds)), some (.arr 1 (bools cs))]

abbrev nd3 : List AV := [AV.v (.int .i64 (-1)), AV.v (.int .i64 7), AV.v (.int .i64 0)]
theorem ndget {x : Int} (h0 : 0 ≤ x) (h1 : x < 3) : ∃ v : Int, ∀ h : x.toNat < nd3.length, nd3[x.toNat]'h = .v (.int .i64 v) := by
  obtain rfl | rfl | rfl : x = 0 ∨ x = 1 ∨ x = 2 := by omega
  · exact ⟨-1, fun _ => rfl⟩
  · exact ⟨7, fun _ => rfl⟩
  · exact ⟨0, fun _ => rfl⟩

theorem puz_tail (bs : List Int) (p q : Nat) (n W T : Int) (cs : List Bool) (ds : List Int) (hb : bs.length ≤ 2000) (hB : Byt bs) (hp : p < 2 ^ 35) (hn0 : 0 ≤ n) (hn : n < 2 ^ 20) (hcs : cs.length ≤ 37) (hds : ds.length ≤ 37) (hq : q ≤ p + 550) (E : ES)
    (e0 : get E 0 = .lp 0 0 0 0) (e1 : get E 1 = .v (.int .i64 n)) (e4 : get E 4 = .lp 0 1 0 0) (e6 : get E 6 = .lp 0 2 0 0) (e9 : get E 9 = .ls 1 3 0 ds.length) (e87 : get E 87 = .lp 0 0 0 0) :
    awp Tryz.prog md5 c_puz_T (FinS [RV.c 4 true 3, RV.t 5] 87 2 [true, false] (puzSet bs p 600)) E (puzH bs q W T cs ds) := by
  have fin : ∀ (ds2 : List Int) (q2 : Nat), ds2.length ≤ 37 → q2 ≤ p + 600 → puzSet bs p 600 (.tup [regA W T cs, .os 1 (ints ds2)]) [rdA bs q2, .bot] := fun ds2 q2 h1 h2 => ⟨W, T, cs, ds2, q2, rfl, hcs, h1, h2, rfl⟩
  simp [c_puz_T, e0, e1, e4, e6, e9, e87]
  refine ⟨by omega, ?_⟩
  refine call_onK (s_spec_l20Rd_odd bs q (2 * n) hb hB (by omega) (by omega)) [0] (by simp) (by simp) (by simp) ?_
  rintro _ _ ⟨b, q2, rfl, hq2, rfl⟩
  cases b with
  | false =>
    simp [get_purgeE, e0, e1, e4, e6, e9, e87]
    refine ⟨_, _, fin ds q2 hds (by omega), ?_⟩
    simp [regA, get_purgeE, e0, e1, e4, e6, e9, e87]
  | true =>
  by_cases hl : 0 < ds.length
  · simp [get_purgeE, e0, e1, e4, e6, e9, e87, hl]
    refine call_onK (s_spec_l20Rd_pick bs q2 ds.length hb hB (by omega)) [0] (by simp) (by simp) (by simp) ?_
    rintro _ _ ⟨x, x0, x1, rfl, rfl⟩
    simp [get_purgeE, e0, e1, e4, e6, e9, e87, hl]
    refine call_onK (s_spec_l20Rd_pick bs (q2 + 1) 3 hb hB (by omega)) [0] (by simp) (by simp) (by simp) ?_
    rintro _ _ ⟨y, y0, y1, rfl, rfl⟩
    have y3 : y < 3 := by omega
    obtain ⟨v, hv⟩ := ndget y0 y3
    have x3 : x < ds.length := by omega
    simp [get_purgeE, e0, e1, e4, e6, e9, e87, hl, y0, y3, hv, x0, x3, ints_set]
    refine ⟨_, _, fin (ds.set x.toNat v) (q2 + 1 + 1) (by simpa using hds) (by omega), ?_⟩
    have htk : (ints (ds.set x.toNat v)).take ds.length = ints (ds.set x.toNat v) := List.take_of_length_le (by simp)
    simp [regA, get_purgeE, e0, e1, e4, e6, e9, e87, htk]
  · have hl' : ds.length = 0 := by omega
    simp [get_purgeE, e0, e1, e4, e6, e9, e87, hl, hl']
    refine ⟨_, _, fin [] q2 (by simp) (by omega), ?_⟩
    simp [regA, get_purgeE, e0, e1, e4, e6, e9, e87]

theorem bools_getI {cs : List Bool} {i : Nat} (h : i < (bools cs).length) : (bools cs)[i]'h = .v (.bool (atb cs i)) := by
  have h2 : i < cs.length := by simpa using h
  simp [bools, atb, h2]

theorem puz_gen (bs : List Int) (p q : Nat) (n W T : Int) (cs : List Bool) (ds : List Int) (hb : bs.length ≤ 2000) (hB : Byt bs) (hp : p < 2 ^ 35) (hn0 : 0 ≤ n) (hn : n < 2 ^ 20) (hcs : cs.length ≤ 37) (hq : q ≤ p + 500) (wide : Int) (hw : 0 ≤ wide ∧ wide ≤ 100) (Qc : AExit → ES → Heap → Prop)
    (hend : ∀ (q2 : Nat) (ds : List Int) (b : Bool), q2 ≤ p + 540 → ds.length ≤ 37 → Qc (.exit 0) [(47, .v (.bool b)), (46, .v (.int .i64 cs.length)), (45, .ls 1 4 0 cs.length), (44, .lp 0 2 0 2), (43, .v (.int .i64 cs.length)), (0, .lp 0 0 0 0), (1, .v (.int .i64 n)), (4, .lp 0 1 0 0), (6, .lp 0 2 0 0), (9, .ls 1 3 0 ds.length), (10, .v (.int .i64 wide)), (11, .v (.int .i64 cs.length)), (87, .lp 0 0 0 0)] (puzH bs q2 W T cs ds)) :
    loopNode [(9, 1)] [0, 1, 4, 6, 9, 10, 11, 87] (awp Tryz.prog md5 c_spec_l20Puzzle_L0) Qc
      [(0, .lp 0 0 0 0), (1, .v (.int .i64 n)), (4, .lp 0 1 0 0), (6, .lp 0 2 0 0), (9, .ls 1 3 0 0), (10, .v (.int .i64 wide)), (11, .v (.int .i64 0)), (87, .lp 0 0 0 0)] (puzH bs q W T cs []) := by
  refine loop_by (fun m E H => ∃ (i q2 : Nat) (ds : List Int), m = cs.length - i ∧ i ≤ cs.length ∧ ds.length = i ∧ q2 ≤ q + i ∧ H = puzH bs q2 W T cs ds ∧
    E = [(0, .lp 0 0 0 0), (1, .v (.int .i64 n)), (4, .lp 0 1 0 0), (6, .lp 0 2 0 0), (9, .ls 1 3 0 ds.length), (10, .v (.int .i64 wide)), (11, .v (.int .i64 i)), (87, .lp 0 0 0 0)]) cs.length ⟨0, q, [], rfl, by omega, rfl, by omega, by simp, by simp⟩ ?_
  rintro J hJ m E H ⟨i, q2, ds, rfl, hi, hdl, hq2, rfl, rfl⟩
  by_cases h : i < cs.length
  case neg =>
    have : i = cs.length := by omega
    subst this
    simp [c_spec_l20Puzzle_L0]
    exact hend q2 ds false (by omega) (by omega)
  have next : ∀ (q3 : Nat) (v : Int), q3 ≤ q2 + 1 → again J (cs.length - i) [(0, .lp 0 0 0 0), (1, .v (.int .i64 n)), (4, .lp 0 1 0 0), (6, .lp 0 2 0 0), (9, .ls 1 3 0 (ds.length + 1)), (10, .v (.int .i64 wide)), (11, .v (.int .i64 (i + 1))), (87, .lp 0 0 0 0)]
      [some (.box [.sl 0 1 (u8s bs), .v (.int .i64 q3)]), some (.box [.v (.int .i64 0), .v (.int .i64 0), .os 1 []]), some (.box [.v (.int .i64 W), .v (.int .i64 T), .ls 1 4 0 cs.length]), some (.arr 1 (ints ds ++ [.v (.int .i64 v)])), some (.arr 1 (bools cs))] := by
    intro q3 v h3
    exact ⟨_, by omega, hJ _ _ _ ⟨i + 1, q3, ds ++ [v], rfl, h, by simp [hdl], by omega, by simp [ints_append, ints_one], by simp⟩⟩
  cases hc : atb cs i with
  | true =>
    simp [c_spec_l20Puzzle_L0, h, hc, bools_getI]
    refine call_onK (s_spec_l20Rd_pick bs q2 (if 7 < wide then 7 else wide) hb hB (by omega)) [0] (by simp) (by simp) (by simp) ?_
    rintro _ _ ⟨x, x0, x1, rfl, rfl⟩
    have n2 := next (q2 + 1) x (by omega)
    simp only [Int.natCast_add, Int.natCast_one] at n2
    simp
    (repeat' first | omega | assumption | apply And.intro)
  | false =>
    have n2 := next q2 (-1) (by omega)
    simp [c_spec_l20Puzzle_L0, h, hc, bools_getI]
    (repeat' first | omega | assumption | apply And.intro)

theorem puz_T1 (bs : List Int) (p q : Nat) (n W T : Int) (cs : List Bool) (ds : List Int) (ok : Bool) (hb : bs.length ≤ 2000) (hB : Byt bs) (hp : p < 2 ^ 35) (hn0 : 0 ≤ n) (hn : n < 2 ^ 20) (hcs : cs.length ≤ 37) (hds : ds.length ≤ 37) (hq : q ≤ p + 450) :
    awp Tryz.prog md5 c_spec_l20Puzzle_T1 (FinS [RV.c 4 true 3, RV.t 5] 87 2 [true, false] (puzSet bs p 600))
      [(0, .lp 0 0 0 0), (1, .v (.int .i64 n)), (4, .lp 0 1 0 0), (6, .lp 0 2 0 0), (8, .v (.bool ok)), (9, .ls 1 3 0 ds.length), (87, .lp 0 0 0 0)] (puzH bs q W T cs ds) := by
  rw [puz_parts]
  cases ok with
  | false =>
    simp [c_puzA]
    refine call_onK (s_spec_l20Rd_pick bs q 6 hb hB (by omega)) [0] (by simp) (by simp) (by simp) ?_
    rintro _ _ ⟨x, x0, x1, rfl, rfl⟩
    simp
    refine ⟨by omega, ?_⟩
    refine puz_gen bs p (q + 1) n W T cs [] hb hB hp hn0 hn hcs (by omega) (2 + x) (by omega) _ ?_
    intro q2 ds2 b h1 h2
    simp
    exact puz_tail bs p q2 n W T cs ds2 hb hB hp hn0 hn hcs h2 (by omega) _ rfl rfl rfl rfl rfl rfl
  | true =>
    simp [c_puzA]
    refine call_onK (s_spec_l20Rd_pick bs q 3 hb hB (by omega)) [0] (by simp) (by simp) (by simp) ?_
    rintro _ _ ⟨y, y0, y1, rfl, rfl⟩
    by_cases c0 : y = 0
    · simp [c0]
      refine call_onK (s_spec_l20Rd_pick bs (q + 1) 6 hb hB (by omega)) [0] (by simp) (by simp) (by simp) ?_
      rintro _ _ ⟨x, x0, x1, rfl, rfl⟩
      simp
      refine ⟨by omega, ?_⟩
      refine puz_gen bs p (q + 1 + 1) n W T cs [] hb hB hp hn0 hn hcs (by omega) (2 + x) (by omega) _ ?_
      intro q2 ds2 b h1 h2
      simp
      exact puz_tail bs p q2 n W T cs ds2 hb hB hp hn0 hn hcs h2 (by omega) _ rfl rfl rfl rfl rfl rfl
    · simp [c0]
      exact puz_tail bs p (q + 1) n W T cs ds hb hB hp hn0 hn hcs hds (by omega) _ rfl rfl rfl rfl rfl rfl

theorem puz_T2 (bs : List Int) (p q : Nat) (n W T : Int) (cs : List Bool) (ls : List Int) (ok : Bool) (hb : bs.length ≤ 2000) (hB : Byt bs) (hp : p < 2 ^ 35) (hn0 : 0 ≤ n) (hn : n < 2 ^ 20) (hcs : cs.length ≤ 37) (hls : ls.length ≤ 37) (hq : q ≤ p + 420) :
    awp Tryz.prog md5 c_spec_l20Puzzle_T2 (FinS [RV.c 4 true 3, RV.t 5] 87 2 [true, false] (puzSet bs p 600))
      [(0, .lp 0 0 0 0), (1, .v (.int .i64 n)), (4, .lp 0 1 0 0), (6, .lp 0 2 0 0), (7, .ls 1 3 0 ls.length), (8, .v (.bool ok)), (87, .lp 0 0 0 0)] (puzH bs q W T cs ls) := by
  simp [c_spec_l20Puzzle_T2]
  (repeat' first | omega | apply And.intro) <;>
  · refine call_onK (s_spec_l20Rd_pick bs q 28 hb hB (by omega)) [0] (by simp) (by simp) (by simp) ?_
    rintro _ _ ⟨x, x0, x1, rfl, rfl⟩
    simp
    refine call_on (s_spec_MakePuzzle W T cs ls x (by omega) (by omega)) ?_
    have hml := mkI_length W T cs ls x
    generalize mkI W T cs ls x = ds at *
    simp
    exact puz_T1 bs p (q + 1) n W T cs ds ok hb hB hp hn0 hn hcs (by omega) (by omega)

set_option maxHeartbeats 4000000 in
theorem s_spec_l20Puzzle (bs : List Int) (p : Nat) (n : Int) (hb : bs.length ≤ 2000) (hB : Byt bs) (hp : p < 2 ^ 35) (hn0 : 0 ≤ n) (hn : n < 2 ^ 20) :
    SoundSet Tryz.prog n_spec_l20Puzzle [rdA bs p, .v (.int .i64 n)] (puzSet bs p 600) := by
  refine fn_okS (md := md5) (ms := [true, false]) k_spec_l20Puzzle (by simp) ?_
  simp [c_spec_l20Puzzle]
  refine ⟨by omega, ?_⟩
  refine call_onK (s_spec_l20Small bs p (2 * n) hb hB (by omega) (by omega)) [0] (by simp) (by simp) (by simp) ?_
  rintro _ _ ⟨W, T, cs, q, rfl, hcs, w0, w6, t0, t24, hq, rfl⟩
  have hmax : ∀ x : Int, 0 ≤ x → 0 ≤ x ∧ 1 ≤ (if tmI W T cs < 1 then 1 else tmI W T cs) := by
    intro x hx; split <;> omega
  simp [regA]
  (repeat' first | omega | apply And.intro) <;>
  · refine call_onK (s_spec_l20Rd_pick bs q 256 hb hB (by omega)) [0] (by simp) (by simp) (by simp) ?_
    rintro _ _ ⟨x, x0, x1, rfl, rfl⟩
    simp
    (repeat' first | omega | apply And.intro) <;>
    · refine call_on (s_spec_TilingsMany W T cs (by omega)) ?_
      generalize tmI W T cs = M at *
      simp [hmax x x0]
      refine call_onK (s_spec_TilingOf W T cs (x % if M < 1 then 1 else M) (by omega)) [] (by simp) (by simp) (by simp) ?_
      rintro _ _ ⟨ls, ok, hls, rfl, rfl⟩
      simp
      exact puz_T2 bs p (q + 1) n W T cs ls ok hb hB hp hn0 hn hcs (by omega) (by omega)

end Go.Proofs.Dev

namespace Go.Proofs.Dev
-- 1 parameters, results [.t 2], 24 slots, modes [false]
@[simp] abbrev n_spec_l10Named : Nat := 105

def c_spec_l10Named : ACode := .seq (.reg [.o 1 .box [.t 0], .o 2 .mv [.kb false]]) <| .seq (.seq (.reg [.f 3 0 1, .l 4 3]) <|
 .block 0 ( .seq (.reg [.o 6 (.bin .eql 0) [.t 4, .k 0], .m 5 6]) <| .cond (.t 5) ( .seq (.reg [.o 2 .mv [.kb true]]) <|
 .ret) ( .seq (.seq (.reg [.o 8 (.bin .eql 0) [.t 4, .k 1], .m 7 8]) <| .cond (.t 7) ( .skip) ( .reg [.o 9 (.bin .eql 0) [.t 4, .k 2], .m 7 9])) <|
 .cond (.t 7) ( .seq (.reg [.f 10 2 1, .l 11 10, .o 12 (.bin .eql 0) [.t 11, .k 0], .m 2 12]) <| .ret) ( .seq (.seq (.reg [.o 14 (.bin .eql 0) [.t 4, .k 3],
 .m 13 14]) <| .cond (.t 13) ( .skip) ( .reg [.o 15 (.bin .eql 0) [.t 4, .k 4], .m 13 15])) <| .cond (.t 13) ( .seq (.reg [.f 16 2 1, .l 17 16,
 .o 18 (.bin .eql 0) [.t 17, .k 0], .m 19 18, .fg 20 1 1 19 true, .lg 21 20 19 true, .g 22 (.bin .eql 0) [.t 21, .k 0] 19 true, .o 23 .pick [.t 19, .t 22,
 .kb false], .m 2 23]) <| .ret) ( .skip))))) <| .seq (.reg [.o 2 .mv [.kb false]]) <| .ret

-- 3 parameters, results [.t 6], 31 slots, modes [false, false, false]
@[simp] abbrev n_spec_l1At : Nat := 243

def c_spec_l1At : ACode := .seq (.reg [.o 3 .box [.t 0], .o 6 .mv [.kb false]]) <| .seq (.reg [.m 7 1, .f 8 0 3, .l 9 8, .o 10 (.bin .sub 0) [.t 9, .k 1],
 .o 11 (.call 106 []) [.t 7, .k 0, .t 10], .m 12 11, .mg 13 2 12 true, .fg 14 1 3 12 true, .lg 15 14 12 true, .g 16 (.bin .sub 0) [.t 15, .k 1] 12 true,
 .g 17 (.call 106 []) [.t 13, .k 0, .t 16] 12 true, .o 18 .pick [.t 12, .t 17, .kb false], .m 19 18, .fg 20 2 3 19 true, .lg 21 20 19 true, .mg 22 2 19 true,
 .fg 23 0 3 19 true, .lg 24 23 19 true, .g 25 (.bin .mul 0) [.t 22, .t 24] 19 true, .mg 26 1 19 true, .g 27 (.bin .add 0) [.t 25, .t 26] 19 true,
 .g 28 (.iadr 1) [.t 21, .t 27] 19 true, .lg 29 28 19 true, .o 30 .pick [.t 19, .t 29, .kb false], .m 6 30]) <| .ret

-- 1 parameters, results [.t 2], 13 slots, modes [false]
@[simp] abbrev n_spec_CornerMany : Nat := 225

def c_spec_CornerMany : ACode := .seq (.reg [.o 1 .box [.t 0], .o 2 .mv [.k 0]]) <| .seq (.seq (.reg [.la 3 3 1, .o 4 (.call 168 []) [.t 3],
 .o 5 (.un .not) [.t 4]]) <| .cond (.t 5) ( .seq (.reg [.o 2 .mv [.k (-1)]]) <| .ret) ( .skip)) <| .seq (.reg [.f 6 0 1, .l 7 6, .o 8 (.bin .add 0) [.t 7, .k 1],
 .f 9 1 1, .l 10 9, .o 11 (.bin .add 0) [.t 10, .k 1], .o 12 (.bin .mul 0) [.t 8, .t 11], .m 2 12]) <| .ret

-- 2 parameters, results [.t 4, .t 5, .t 6, .t 7, .t 8], 72 slots, modes [false, false]
@[simp] abbrev n_spec_l5Square : Nat := 200

def c_spec_l5Square : ACode := .seq (.reg [.o 2 .box [.t 0], .o 4 .mv [.k 0], .o 5 .mv [.k 0], .o 6 .mv [.k 0], .o 7 .mv [.k 0], .o 8 .mv [.kb false]]) <|
 .seq (.reg [.m 12 1, .f 13 0 2, .l 14 13, .o 15 (.bin .add 0) [.t 14, .k 1], .o 16 (.bin .rem 0) [.t 12, .t 15], .m 9 16]) <| .seq (.reg [.m 17 1, .f 18 0 2,
 .l 19 18, .o 20 (.bin .add 0) [.t 19, .k 1], .o 21 (.bin .quo 0) [.t 17, .t 20], .m 10 21]) <| .seq (.seq (.reg [.la 22 3 2, .m 23 9,
 .o 24 (.bin .sub 0) [.t 23, .k 1], .m 25 10, .o 26 (.bin .sub 0) [.t 25, .k 1], .o 27 (.call 243 []) [.t 22, .t 24, .t 26], .o 28 (.un .not) [.t 27], .m 29 28,
 .g 30 (.load true 3) [.t 2] 29 false, .mg 31 9 29 false, .mg 32 10 29 false, .g 33 (.bin .sub 0) [.t 32, .k 1] 29 false, .g 34 (.call 243 []) [.t 30, .t 31,
 .t 33] 29 false, .g 35 (.un .not) [.t 34] 29 false, .o 36 .pick [.t 29, .kb true, .t 35], .m 37 36, .g 38 (.load true 3) [.t 2] 37 false, .mg 39 9 37 false,
 .g 40 (.bin .sub 0) [.t 39, .k 1] 37 false, .mg 41 10 37 false, .g 42 (.call 243 []) [.t 38, .t 40, .t 41] 37 false, .g 43 (.un .not) [.t 42] 37 false,
 .o 44 .pick [.t 37, .kb true, .t 43], .m 45 44, .g 46 (.load true 3) [.t 2] 45 false, .mg 47 9 45 false, .mg 48 10 45 false, .g 49 (.call 243 []) [.t 46, .t 47,
 .t 48] 45 false, .g 50 (.un .not) [.t 49] 45 false, .o 51 .pick [.t 45, .kb true, .t 50]]) <| .cond (.t 51) ( .seq (.reg [.o 4 .mv [.k 0], .o 5 .mv [.k 0],
 .o 6 .mv [.k 0], .o 7 .mv [.k 0], .o 8 .mv [.kb false]]) <| .ret) ( .skip)) <| .seq (.reg [.m 52 10, .o 53 (.bin .sub 0) [.t 52, .k 1], .f 54 0 2, .l 55 54,
 .o 56 (.bin .mul 0) [.t 53, .t 55], .m 57 9, .o 58 (.bin .add 0) [.t 56, .t 57], .o 59 (.bin .sub 0) [.t 58, .k 1], .m 11 59]) <|
 .seq (.draw ( .take (.m 60 11) <| .take (.m 61 11) <| .take (.o 62 (.bin .add 0) [.t 61, .k 1]) <| .take (.m 63 11) <| .take (.f 64 0 2) <| .take (.m 67 11) <|
 .take (.f 68 0 2) <| .take (.m 4 60) <| .take (.m 5 62) <| .alt (.l 65 64) ( .take (.o 66 (.bin .add 0) [.t 63, .t 65]) <| .take (.m 6 66) <|
 .al (.l 69 68) ( .take (.o 70 (.bin .add 0) [.t 67, .t 69]) <| .take (.o 71 (.bin .add 0) [.t 70, .k 1]) <| .take (.m 7 71) <| .take (.o 8 .mv [.kb true]) <|
 .done)) <| .al (.l 69 68) ( .take (.o 70 (.bin .add 0) [.t 67, .t 69]) <| .take (.o 71 (.bin .add 0) [.t 70, .k 1]) <|
 .al (.l 65 64) ( .take (.o 66 (.bin .add 0) [.t 63, .t 65]) <| .take (.m 6 66) <| .take (.m 7 71) <| .take (.o 8 .mv [.kb true]) <| .done)))) <| .ret

-- 3 parameters, results [.t 6], 62 slots, modes [false, false, false]
@[simp] abbrev n_spec_FlipMay : Nat := 199

def c_spec_FlipMay : ACode := .seq (.reg [.o 3 .box [.t 0], .o 6 .mv [.kb false]]) <| .seq (.seq (.reg [.la 12 3 3, .m 13 1, .o 14 (.call 122 []) [.t 12,
 .t 13], .o 15 (.un .not) [.t 14], .m 16 15, .mg 17 2 16 false, .g 18 (.load true 3) [.t 3] 16 false, .g 19 (.call 225 []) [.t 18] 16 false,
 .g 20 (.bin .sub 0) [.t 19, .k 1] 16 false, .g 21 (.call 106 []) [.t 17, .k 0, .t 20] 16 false, .g 22 (.un .not) [.t 21] 16 false, .o 23 .pick [.t 16, .kb true,
 .t 22]]) <| .cond (.t 23) ( .seq (.reg [.o 6 .mv [.kb false]]) <| .ret) ( .skip)) <| .seq (.reg [.la 25 3 3, .m 26 2, .o 27 (.call 200 []) [.t 25, .t 26],
 .m 24 27, .e 28 0 24, .e 29 1 24, .e 30 2 24, .e 31 3 24, .e 32 4 24, .m 7 28, .m 8 29, .m 9 30, .m 10 31, .m 11 32]) <| .seq (.reg [.m 33 11, .m 34 33,
 .mg 35 1 34 true, .mg 36 7 34 true, .g 37 (.iadr 1) [.t 35, .t 36] 34 true, .lg 38 37 34 true, .g 39 (.bin .eql 0) [.t 38, .k 1] 34 true, .mg 40 39 34 true,
 .mg 41 1 40 true, .mg 42 9 40 true, .g 43 (.iadr 1) [.t 41, .t 42] 40 true, .lg 44 43 40 true, .g 45 (.bin .eql 0) [.t 44, .k 1] 40 true, .g 46 .pick [.t 40,
 .t 45, .kb false] 34 true, .mg 47 46 34 true, .mg 48 1 47 false, .mg 49 7 47 false, .g 50 (.iadr 1) [.t 48, .t 49] 47 false, .lg 51 50 47 false,
 .g 52 (.bin .eql 0) [.t 51, .k 2] 47 false, .mg 53 52 47 false, .mg 54 1 53 true, .mg 55 8 53 true, .g 56 (.iadr 1) [.t 54, .t 55] 53 true, .lg 57 56 53 true,
 .g 58 (.bin .eql 0) [.t 57, .k 2] 53 true, .g 59 .pick [.t 53, .t 58, .kb false] 47 false, .g 60 .pick [.t 47, .kb true, .t 59] 34 true, .o 61 .pick [.t 34,
 .t 60, .kb false], .m 6 61]) <| .ret

-- 3 parameters, results [.t 6, .t 7], 67 slots, modes [false, false, false]
@[simp] abbrev n_spec_FlipOne : Nat := 142

def c_spec_FlipOne : ACode := .seq (.reg [.o 3 .box [.t 0], .o 6 .mv [.c (.os 1 [])], .o 7 .mv [.kb false]]) <| .seq (.seq (.reg [.la 14 3 3, .m 15 1,
 .o 16 (.call 122 []) [.t 14, .t 15], .o 17 (.un .not) [.t 16]]) <| .cond (.t 17) ( .seq (.reg [.o 18 (.bsl 1) [], .m 6 18, .o 7 .mv [.kb false]]) <|
 .ret) ( .skip)) <| .seq (.reg [.o 19 (.bsl 1) [], .m 20 1, .o 21 (.app 1 8 true) [.t 19, .t 20], .m 8 21]) <| .seq (.seq (.reg [.la 22 3 3, .m 23 1, .m 24 2,
 .o 25 (.call 199 []) [.t 22, .t 23, .t 24], .o 26 (.un .not) [.t 25]]) <| .cond (.t 26) ( .seq (.reg [.m 27 8, .m 6 27, .o 7 .mv [.kb false]]) <|
 .ret) ( .skip)) <| .seq (.reg [.la 29 3 3, .m 30 2, .o 31 (.call 200 []) [.t 29, .t 30], .m 28 31, .e 32 0 28, .e 33 1 28, .e 34 2 28, .e 35 3 28, .e 36 4 28,
 .m 9 32, .m 10 33, .m 11 34, .m 12 35, .m 13 36]) <| .seq (.seq (.reg [.m 37 1, .m 38 9, .o 39 (.iadr 1) [.t 37, .t 38], .l 40 39, .o 41 (.bin .eql 0) [.t 40,
 .k 1]]) <| .cond (.t 41) ( .seq (.reg [.m 42 8, .m 43 9, .o 44 (.iadr 1) [.t 42, .t 43], .s (.store 1) [.t 44, .k 2]]) <| .seq (.reg [.m 45 8, .m 46 10,
 .o 47 (.iadr 1) [.t 45, .t 46], .s (.store 1) [.t 47, .k 2]]) <| .seq (.reg [.m 48 8, .m 49 11, .o 50 (.iadr 1) [.t 48, .t 49], .s (.store 1) [.t 50, .k 4]]) <|
 .reg [.m 51 8, .m 52 12, .o 53 (.iadr 1) [.t 51, .t 52], .s (.store 1) [.t 53, .k 4]]) ( .seq (.reg [.m 54 8, .m 55 9, .o 56 (.iadr 1) [.t 54, .t 55],
 .s (.store 1) [.t 56, .k 1]]) <| .seq (.reg [.m 57 8, .m 58 11, .o 59 (.iadr 1) [.t 57, .t 58], .s (.store 1) [.t 59, .k 1]]) <| .seq (.reg [.m 60 8, .m 61 10,
 .o 62 (.iadr 1) [.t 60, .t 61], .s (.store 1) [.t 62, .k 3]]) <| .reg [.m 63 8, .m 64 12, .o 65 (.iadr 1) [.t 63, .t 64], .s (.store 1) [.t 65, .k 3]])) <|
 .seq (.reg [.m 66 8, .m 6 66, .o 7 .mv [.kb true]]) <| .ret

-- 1 parameters, results [.c 2 true 6], 35 slots, modes [false]
@[simp] abbrev n_spec_l10Copy : Nat := 72
abbrev c_spec_l10Copy_L0_p0 : Plan := .al (.o 30 (.app 1 8 true) [.t 24, .t 29]) ( .al (.o 31 (.bsl 1) [.t 30]) ( .al (.o 32 (.app 1 24 false) [.t 23, .t 31]) ( .take (.f 33 5 3) <| .al (.s (.store 1) [.t 33, .t 32]) ( .done))))
abbrev c_spec_l10Copy_L0_p1 : Plan := .alt (.l 23 22) c_spec_l10Copy_L0_p0 <| .al (.o 30 (.app 1 8 true) [.t 24, .t 29]) ( .alt (.l 23 22) ( .al (.o 31 (.bsl 1) [.t 30]) ( .al (.o 32 (.app 1 24 false) [.t 23, .t 31]) ( .take (.f 33 5 3) <| .al (.s (.store 1) [.t 33, .t 32]) ( .done)))) <| .al (.o 31 (.bsl 1) [.t 30]) ( .al (.l 23 22) ( .al (.o 32 (.app 1 24 false) [.t 23, .t 31]) ( .take (.f 33 5 3) <| .al (.s (.store 1) [.t 33, .t 32]) ( .done)))))
abbrev c_spec_l10Copy_L0_p2 : Plan := .al (.l 26 25) ( .take (.o 28 (.iadr 1) [.t 26, .t 27]) <| .al (.l 29 28) c_spec_l10Copy_L0_p0)
def c_spec_l10Copy_L0 : ACode := .seq (.seq (.reg [.m 15 4, .f 16 5 1, .l 17 16, .n 18 17, .o 19 (.bin .lss 0) [.t 15, .t 18]]) <|
 .cond (.t 19) ( .skip) ( .exit 0)) <| .seq (.block 1 ( .draw ( .take (.f 22 5 3) <| .take (.f 25 5 1) <| .take (.m 27 4) <|
 .alt (.l 23 22) ( .alt (.o 24 (.bsl 1) []) c_spec_l10Copy_L0_p2 <| .al (.l 26 25) ( .take (.o 28 (.iadr 1) [.t 26, .t 27]) <|
 .alt (.o 24 (.bsl 1) []) ( .al (.l 29 28) c_spec_l10Copy_L0_p0) <| .al (.l 29 28) ( .al (.o 24 (.bsl 1) []) c_spec_l10Copy_L0_p0))) <| .alt (.o 24 (.bsl 1) []) ( .alt (.l 23 22) c_spec_l10Copy_L0_p2 <| .al (.l 26 25) ( .take (.o 28 (.iadr 1) [.t 26, .t 27]) <|
 .alt (.l 23 22) ( .al (.l 29 28) c_spec_l10Copy_L0_p0) <| .al (.l 29 28) c_spec_l10Copy_L0_p1)) <| .al (.l 26 25) ( .take (.o 28 (.iadr 1) [.t 26, .t 27]) <|
 .alt (.l 23 22) ( .alt (.o 24 (.bsl 1) []) ( .al (.l 29 28) c_spec_l10Copy_L0_p0) <|
 .al (.l 29 28) ( .al (.o 24 (.bsl 1) []) c_spec_l10Copy_L0_p0)) <|
 .alt (.o 24 (.bsl 1) []) ( .alt (.l 23 22) ( .al (.l 29 28) c_spec_l10Copy_L0_p0) <|
 .al (.l 29 28) c_spec_l10Copy_L0_p1) <| .al (.l 29 28) ( .alt (.l 23 22) ( .al (.o 24 (.bsl 1) []) c_spec_l10Copy_L0_p0) <|
 .al (.o 24 (.bsl 1) []) c_spec_l10Copy_L0_p1))))) <| .reg [.m 20 4, .o 21 (.bin .add 0) [.t 20, .k 1], .m 4 21]

def c_spec_l10Copy : ACode := .seq (.reg [.o 1 .box [.t 0], .o 2 (.alloc bz) []]) <| .seq (.reg [.f 5 0 1, .la 6 3 5, .f 7 3 1, .l 8 7,
 .o 9 (.call 119 []) [.t 6, .t 8], .o 3 (.alloc bz) [], .s (.store 6) [.t 3, .t 9]]) <| .seq (.reg [.o 10 (.bsl 1) [], .f 11 4 1, .l 12 11,
 .o 13 (.app 1 8 true) [.t 10, .t 12], .f 14 4 3, .s (.store 1) [.t 14, .t 13]]) <| .seq (.seq (.reg [.o 4 .mv [.k 0]]) <| .block 0 ( .loop [] [1, 2, 3,
 4] c_spec_l10Copy_L0)) <| .seq (.reg [.la 34 6 3, .s (.store 6) [.t 2, .t 34]]) <| .ret

-- 2 parameters, results [.c 4 true 6, .t 5], 139 slots, modes [false, false]
@[simp] abbrev n_spec_BookDo : Nat := 73

def c_spec_BookDo_T : ACode := .seq (.seq (.reg [.m 109 8, .o 110 (.un .not) [.t 109], .m 111 110, .fg 112 0 2 111 false,
 .g 113 (.load true 3) [.t 112] 111 false, .fg 114 3 2 111 false, .lg 115 114 111 false, .mg 116 7 111 false, .g 117 (.call 59 []) [.t 113, .t 115,
 .t 116] 111 false, .g 118 (.un .not) [.t 117] 111 false, .o 119 .pick [.t 111, .kb true, .t 118]]) <| .cond (.t 119) ( .seq (.reg [.la 120 6 6,
 .s (.store 6) [.t 4, .t 120], .o 5 .mv [.kb false]]) <| .ret) ( .skip)) <| .seq (.reg [.f 121 5 6, .l 122 121, .f 123 4 6, .l 124 123, .o 125 (.bsl 1) [.t 124],
 .o 126 (.app 1 24 false) [.t 122, .t 125], .f 127 5 6, .s (.store 1) [.t 127, .t 126]]) <| .seq (.seq (.reg [.f 128 5 6, .l 129 128, .n 130 129,
 .o 131 (.bin .gtr 0) [.t 130, .k 20]]) <| .cond (.t 131) ( .reg [.f 132 5 6, .l 133 132, .o 134 (.slice 1 false true false false) [.t 133, .k 1], .f 135 5 6,
 .s (.store 1) [.t 135, .t 134]]) ( .skip)) <| .seq (.reg [.m 136 7, .f 137 4 6, .s (.store 1) [.t 137, .t 136]]) <| .seq (.reg [.la 138 6 6,
 .s (.store 6) [.t 4, .t 138], .o 5 .mv [.kb true]]) <| .ret

abbrev c_spec_BookDo_D_p0 : Plan := .al (.o 84 (.call 144 []) [.t 81, .t 83]) ( .take (.o 85 (.bin .gtr 0) [.t 79, .t 84]) <| .take (.m 8 85) <| .done)
abbrev c_spec_BookDo_D_p1 : Plan := .al (.o 79 (.call 144 []) [.t 77, .t 78]) c_spec_BookDo_D_p0
abbrev c_spec_BookDo_D_p2 : Plan := .alt (.o 79 (.call 144 []) [.t 77, .t 78]) ( .al (.la 81 3 80) c_spec_BookDo_D_p0) <| .al (.la 81 3 80) c_spec_BookDo_D_p1
abbrev c_spec_BookDo_D_p3 : Plan := .alt (.o 79 (.call 144 []) [.t 77, .t 78]) ( .al (.l 83 82) c_spec_BookDo_D_p0) <| .al (.l 83 82) c_spec_BookDo_D_p1
def c_spec_BookDo_D : ACode := .draw ( .take (.f 76 0 2) <| .take (.m 78 7) <| .take (.f 80 0 2) <| .take (.f 82 4 2) <|
 .alt (.la 77 3 76) ( .alt (.o 79 (.call 144 []) [.t 77, .t 78]) ( .alt (.la 81 3 80) ( .al (.l 83 82) c_spec_BookDo_D_p0) <| .al (.l 83 82) ( .al (.la 81 3 80) c_spec_BookDo_D_p0)) <| .alt (.la 81 3 80) c_spec_BookDo_D_p3 <| .al (.l 83 82) c_spec_BookDo_D_p2) <|
 .alt (.la 81 3 80) ( .alt (.la 77 3 76) c_spec_BookDo_D_p3 <|
 .al (.l 83 82) ( .al (.la 77 3 76) c_spec_BookDo_D_p1)) <| .al (.l 83 82) ( .alt (.la 77 3 76) c_spec_BookDo_D_p2 <| .al (.la 81 3 80) ( .al (.la 77 3 76) c_spec_BookDo_D_p1)))

def c_spec_BookDo : ACode := .seq (.reg [.o 2 .box [.t 0], .o 3 .box [.t 1], .o 4 (.alloc bz) [], .o 5 .mv [.kb false]]) <| .seq (.seq (.reg [.la 9 6 2,
 .o 10 (.call 18 []) [.t 9], .o 11 (.un .not) [.t 10]]) <| .cond (.t 11) ( .seq (.reg [.o 12 (.build bz []) [], .s (.store 6) [.t 4, .t 12],
 .o 5 .mv [.kb false]]) <| .ret) ( .skip)) <| .seq (.reg [.la 13 6 2, .o 14 (.call 72 []) [.t 13], .o 6 (.alloc bz) [], .s (.store 6) [.t 6, .t 14]]) <|
 .seq (.reg [.o 15 (.bsl 1) [], .m 7 15]) <| .seq (.reg [.o 8 .mv [.kb false]]) <| .seq (.block 0 ( .seq (.reg [.la 17 3 3, .o 18 (.call 105 []) [.t 17],
 .o 19 (.un .not) [.t 18], .m 16 19]) <| .cond (.t 16) ( .seq (.reg [.la 20 6 6, .s (.store 6) [.t 4, .t 20], .o 5 .mv [.kb false]]) <|
 .ret) ( .seq (.reg [.f 22 0 3, .l 23 22, .o 24 (.bin .eql 0) [.t 23, .k 0], .m 21 24]) <| .cond (.t 21) ( .reg [.f 26 0 2, .la 27 3 26, .f 28 4 2, .l 29 28,
 .f 30 1 3, .l 31 30, .f 32 2 3, .l 33 32, .o 34 (.call 140 []) [.t 27, .t 29, .t 31, .t 33], .m 25 34, .e 35 0 25, .e 36 1 25, .m 7 35,
 .m 8 36]) ( .seq (.reg [.f 38 0 3, .l 39 38, .o 40 (.bin .eql 0) [.t 39, .k 1], .m 37 40]) <| .cond (.t 37) ( .reg [.f 42 0 2, .la 43 3 42, .f 44 4 2, .l 45 44,
 .f 46 1 3, .l 47 46, .o 48 (.call 141 []) [.t 43, .t 45, .t 47], .m 41 48, .e 49 0 41, .e 50 1 41, .m 7 49, .m 8 50]) ( .seq (.reg [.f 52 0 3, .l 53 52,
 .o 54 (.bin .eql 0) [.t 53, .k 2], .m 51 54]) <| .cond (.t 51) ( .reg [.f 56 0 2, .la 57 3 56, .f 58 4 2, .l 59 58, .f 60 1 3, .l 61 60,
 .o 62 (.call 142 []) [.t 57, .t 59, .t 61], .m 55 62, .e 63 0 55, .e 64 1 55, .m 7 63, .m 8 64]) ( .seq (.reg [.f 66 0 3, .l 67 66, .o 68 (.bin .eql 0) [.t 67,
 .k 3], .m 65 68]) <| .cond (.t 65) ( .seq (.reg [.f 69 0 2, .la 70 3 69, .f 71 3 2, .l 72 71, .f 73 4 2, .l 74 73, .o 75 (.call 143 []) [.t 70, .t 72, .t 74],
 .m 7 75]) <| c_spec_BookDo_D) ( .seq (.reg [.f 87 5 6, .l 88 87, .n 89 88, .o 90 (.bin .gtr 0) [.t 89, .k 0], .m 86 90]) <| .cond (.t 86) ( .seq (.own [(.op,
 .f 91 5 6), (.op, .l 92 91), (.op, .f 93 5 6), (.op, .l 94 93), (.op, .n 95 94), (.op, .o 96 (.bin .sub 0) [.t 95, .k 1]), (.op, .o 97 (.iadr 1) [.t 92,
 .t 96]), (.take, .l 98 97), (.op, .f 99 4 6), (.op, .s (.store 1) [.t 99, .t 98])]) <| .seq (.reg [.f 100 5 6, .l 101 100, .f 102 5 6, .l 103 102, .n 104 103,
 .o 105 (.bin .sub 0) [.t 104, .k 1], .o 106 (.slice 1 false false true false) [.t 101, .t 105], .f 107 5 6, .s (.store 1) [.t 107, .t 106]]) <|
 .seq (.reg [.la 108 6 6, .s (.store 6) [.t 4, .t 108], .o 5 .mv [.kb true]]) <| .ret) ( .skip)))))))) <| c_spec_BookDo_T

end Go.Proofs.Dev

namespace Go.Proofs.Dev
set_option linter.unusedSimpArgs false
set_option maxRecDepth 100000

theorem bkPast_if (ls : List Int) (ps : List (List Int)) (h : ps.length ≤ 20) : bkPast ls ps = if 20 < ps.length + 1 then (ps ++ [ls]).drop 1 else ps ++ [ls] := by
  unfold bkPast
  split
  · rw [show ps.length + 1 - 20 = 1 by omega]
  · rw [show ps.length + 1 - 20 = 0 by omega]; rfl

abbrev bdF (post : AV → List AV → Prop) := FinS [RV.c 4 true 6, RV.t 5] 139 2 [false, false] post

abbrev bdH (W T : Int) (cs : List Bool) (ds ls : List Int) (ps : List (List Int)) (kind spot way : Int) (n : List Int) : Heap :=
  [some (.box [.v (.int .i64 W), .v (.int .i64 T), .sl 1 1 (bools cs), .sl 1 1 (ints ds), .sl 1 1 (ints ls), .sl 1 1 (sls 1 ps)]),
    some (.box [.v (.int .i64 kind), .v (.int .i64 spot), .v (.int .i64 way)]),
    some (.box [.v (.int .i64 0), .v (.int .i64 0), .os 1 [], .os 1 [], .os 1 [], .os 1 []]),
    some (.arr 1 (bools cs)), some (.arr 1 (ints ds)), some (.arr 1 (ints ls)), some (.arr 1 (oss ps)),
    some (.box [.v (.int .i64 W), .v (.int .i64 T), .ls 1 3 0 cs.length, .ls 1 4 0 ds.length, .ls 1 5 0 ls.length, .ls 1 6 0 ps.length]),
    some (.arr 1 []), some (.arr 1 (ints n))]

theorem bd_T (W T : Int) (cs : List Bool) (ds ls : List Int) (ps : List (List Int)) (kind spot way : Int) (n : List Int) (b : Bool)
    (hc : cs.length ≤ 40) (hd : ds.length ≤ 40) (hl : ls.length ≤ 40) (hps : ps.length ≤ 20) (hn : n.length ≤ 40) (post : AV → List AV → Prop)
    (p0 : (b && fairB W T cs ds n) = false → post (.tup [bkO W T cs ds ls ps, .v (.bool false)]) [.bot, .bot])
    (p1 : (b && fairB W T cs ds n) = true → post (.tup [bkO W T cs ds n (bkPast ls ps), .v (.bool true)]) [.bot, .bot]) (E : ES)
    (e2 : get E 2 = .lp 0 0 0 0) (e4 : get E 4 = .lp 0 2 0 0) (e6 : get E 6 = .lp 0 7 0 0) (e7 : get E 7 = .ls 1 9 0 n.length) (e8 : get E 8 = .v (.bool b)) :
    awp Tryz.prog md5 c_spec_BookDo_T (bdF post) E (bdH W T cs ds ls ps kind spot way n) := by
  have fair := s_spec_FairOk W T cs ds n (by omega) (by omega) (by omega)
  have htn : (ints n).take n.length = ints n := take_ints_all n
  cases b with
  | false =>
    simp [c_spec_BookDo_T, e2, e4, e6, e7, e8]
    exact ⟨_, _, p0 rfl, by simp [e4]⟩
  | true =>
    simp [c_spec_BookDo_T, e2, e4, e6, e7, e8]
    refine call_on fair ?_
    cases hf : fairB W T cs ds n with
    | false =>
      simp [e2, e4, e6, e7, e8]
      exact ⟨_, _, p0 (by simp [hf]), by simp [e4]⟩
    | true =>
      have p1 := p1 (by simp [hf])
      have key : oss ps ++ [.os 1 (ints ls)] = oss (ps ++ [ls]) := by rw [oss_append, oss_one]
      by_cases h20 : 20 < ps.length + 1
      · have h20' : (20 : Int) < ps.length + 1 := by omega
        have e : bkPast ls ps = (ps ++ [ls]).drop 1 := by rw [bkPast_if _ _ hps, if_pos h20]
        rw [e] at p1
        have hw : ((oss (ps ++ [ls])).drop 1).take ps.length = oss ((ps ++ [ls]).drop 1) := by
          have e2 : (oss (ps ++ [ls])).drop 1 = oss ((ps ++ [ls]).drop 1) := by simp [oss]
          rw [e2]
          exact List.take_of_length_le (by simp [oss])
        simp [e2, e4, e6, e7, e8, key, h20']
        have h1p : 1 + ps.length ≤ ps.length + 1 := by omega
        rw [List.drop_one, List.drop_one] at hw
        exact ⟨by omega, _, _, p1, by simp [e4, hw, htn, h1p]⟩
      · have h20' : ¬ (20 : Int) < ps.length + 1 := by omega
        have e : bkPast ls ps = ps ++ [ls] := by rw [bkPast_if _ _ hps, if_neg h20]
        rw [e] at p1
        have hw : (oss (ps ++ [ls])).take (ps.length + 1) = oss (ps ++ [ls]) := List.take_of_length_le (by simp [oss])
        simp [e2, e4, e6, e7, e8, key, h20']
        exact ⟨by omega, _, _, p1, by simp [e4, hw, htn]⟩

theorem s_spec_BookDoS (k : cFn Tryz.prog n_spec_BookDo 139 [.c 4 true 6, .t 5] c_spec_BookDo) (W T : Int) (cs : List Bool) (ds ls : List Int) (ps : List (List Int)) (kind spot way : Int)
    (hc : cs.length ≤ 40) (hd : ds.length ≤ 40) (hl : ls.length ≤ 40) (hps : ps.length ≤ 20) (hp : ∀ p ∈ ps, p.length ≤ 40)
    (ok named : Bool) (n : List Int) (b : Bool) (m0 m1 : Int)
    (hv : SoundAt Tryz.prog 18 [bkA W T cs ds ls ps] (.v (.bool ok)) [.bot])
    (hcopy : ok = true → SoundAt Tryz.prog 72 [bkA W T cs ds ls ps] (bkO W T cs ds ls ps) [.bot])
    (hnamed : SoundAt Tryz.prog 105 [deedV kind spot way] (.v (.bool named)) [.bot])
    (h0 : ok = true → kind = 0 → SoundAt Tryz.prog 140 [.agg [.v (.int .i64 W), .v (.int .i64 T), .sl 1 1 (bools cs)], .sl 1 1 (ints ls), .v (.int .i64 spot), .v (.int .i64 way)] (.tup [.os 1 (ints n), .v (.bool b)]) [.bot, .bot, .bot, .bot])
    (h1 : ok = true → kind = 1 → SoundAt Tryz.prog n_spec_LiftOne [.agg [.v (.int .i64 W), .v (.int .i64 T), .sl 1 1 (bools cs)], .sl 1 1 (ints ls), .v (.int .i64 spot)] (.tup [.os 1 (ints n), .v (.bool b)]) [.bot, .bot, .bot])
    (h2 : ok = true → kind = 2 → SoundAt Tryz.prog 142 [.agg [.v (.int .i64 W), .v (.int .i64 T), .sl 1 1 (bools cs)], .sl 1 1 (ints ls), .v (.int .i64 spot)] (.tup [.os 1 (ints n), .v (.bool b)]) [.bot, .bot, .bot])
    (h3 : ok = true → kind = 3 → SoundAt Tryz.prog 143 [.agg [.v (.int .i64 W), .v (.int .i64 T), .sl 1 1 (bools cs)], .sl 1 1 (ints ds), .sl 1 1 (ints ls)] (.os 1 (ints n)) [.bot, .bot, .bot])
    (h4 : SoundAt Tryz.prog 144 [.agg [.v (.int .i64 W), .v (.int .i64 T), .sl 1 1 (bools cs)], .sl 1 1 (ints n)] (.v (.int .i64 m0)) [.bot, .bot])
    (h5 : SoundAt Tryz.prog 144 [.agg [.v (.int .i64 W), .v (.int .i64 T), .sl 1 1 (bools cs)], .sl 1 1 (ints ls)] (.v (.int .i64 m1)) [.bot, .bot])
    (hb3 : ok = true → kind = 3 → b = decide (m1 < m0)) (hn : n.length ≤ 40) (post : AV → List AV → Prop)
    (pz : ok = false → post (.tup [bkO 0 0 [] [] [] [], .v (.bool false)]) [.bot, .bot])
    (pn : ok = true → named = false → post (.tup [bkO W T cs ds ls ps, .v (.bool false)]) [.bot, .bot])
    (pe : ok = true → named = true → (kind ≠ 0 ∧ kind ≠ 1 ∧ kind ≠ 2 ∧ kind ≠ 3) → ps = [] → post (.tup [bkO W T cs ds ls ps, .v (.bool false)]) [.bot, .bot])
    (pb : ok = true → named = true → (kind ≠ 0 ∧ kind ≠ 1 ∧ kind ≠ 2 ∧ kind ≠ 3) → ∀ q qs, ps = qs ++ [q] → post (.tup [bkO W T cs ds q qs, .v (.bool true)]) [.bot, .bot])
    (p0 : ok = true → named = true → (kind = 0 ∨ kind = 1 ∨ kind = 2 ∨ kind = 3) → (b && fairB W T cs ds n) = false → post (.tup [bkO W T cs ds ls ps, .v (.bool false)]) [.bot, .bot])
    (p1 : ok = true → named = true → (kind = 0 ∨ kind = 1 ∨ kind = 2 ∨ kind = 3) → (b && fairB W T cs ds n) = true → post (.tup [bkO W T cs ds n (bkPast ls ps), .v (.bool true)]) [.bot, .bot]) :
    SoundSet Tryz.prog n_spec_BookDo [bkA W T cs ds ls ps, deedV kind spot way] post := by
  refine fn_okS (md := md5) (ms := [false, false]) k (by simp) ?_
  simp [c_spec_BookDo]
  refine call_on hv ?_
  cases ok with
  | false =>
    simp
    exact ⟨_, _, pz rfl, by simp⟩
  | true =>
  have hcopy := hcopy rfl
  simp
  refine call_on hcopy ?_
  simp
  refine call_on hnamed ?_
  cases named with
  | false =>
    simp
    exact ⟨_, _, pn rfl rfl, by simp⟩
  | true =>
  have fall : (kind = 0 ∨ kind = 1 ∨ kind = 2 ∨ kind = 3) → ∀ E, get E 2 = .lp 0 0 0 0 → get E 4 = .lp 0 2 0 0 → get E 6 = .lp 0 7 0 0 → get E 7 = .ls 1 9 0 n.length → get E 8 = .v (.bool b) →
      awp Tryz.prog md5 c_spec_BookDo_T (bdF post) E (bdH W T cs ds ls ps kind spot way n) := by
    intro hm E e2 e4 e6 e7 e8
    exact bd_T W T cs ds ls ps kind spot way n b hc hd hl hps hn post (p0 rfl rfl hm) (p1 rfl rfl hm) E e2 e4 e6 e7 e8
  simp
  refine ⟨fun hk => ?_, fun hk0 => ⟨fun hk => ?_, fun hk1 => ⟨fun hk => ?_, fun hk2 => ⟨fun hk => ?_, fun hk3 => ?_⟩⟩⟩⟩
  · refine call_on (h0 rfl hk) ?_
    simp
    exact fall (.inl hk) _ rfl rfl rfl rfl rfl
  · refine call_on (h1 rfl hk) ?_
    simp
    exact fall (.inr (.inl hk)) _ rfl rfl rfl rfl rfl
  · refine call_on (h2 rfl hk) ?_
    simp
    exact fall (.inr (.inr (.inl hk))) _ rfl rfl rfl rfl rfl
  · refine call_on (h3 rfl hk) ?_
    simp [c_spec_BookDo_D]
    (repeat' first | omega | apply And.intro) <;>
    · refine call_on h4 ?_
      simp
      (repeat' first | omega | apply And.intro) <;>
      · refine call_on h5 ?_
        simp
        exact fall (.inr (.inr (.inr hk))) _ rfl rfl rfl rfl (by rw [hb3 rfl hk]; rfl)
  · rcases List.eq_nil_or_concat ps with rfl | ⟨qs, q, hqq⟩
    · refine ⟨fun h => by simp at h, fun _ => ?_⟩
      simp [c_spec_BookDo_T]
      exact ⟨_, _, pe rfl rfl ⟨hk0, hk1, hk2, hk3⟩ rfl, by simp⟩
    · rw [List.concat_eq_append] at hqq
      subst hqq
      refine ⟨fun _ => ?_, fun h => by simp at h⟩
      have el : (qs ++ [q]).length = qs.length + 1 := by simp
      have he : (oss (qs ++ [q]))[qs.length]? = some (.os 1 (ints q)) := by simp [oss]
      have hi1 : qs.length + 1 - 1 = qs.length := by omega
      rw [el]
      refine ⟨by omega, by omega, ?_⟩
      refine awpT_take rfl rfl (by rw [hi1]; exact he) ?_
      intro u
      have hw4 : ((oss (qs ++ [q])).set qs.length (.v u)).take qs.length = oss qs := by
        rw [List.take_set_of_le (Nat.le_refl _)]
        simp [oss]
      have htq : (ints q).take q.length = ints q := take_ints_all q
      simp [takeH]
      exact ⟨by omega, _, _, pb rfl rfl ⟨hk0, hk1, hk2, hk3⟩ q qs rfl, by simp [hw4, htq]⟩
end Go.Proofs.Dev

namespace Go.Proofs.Dev
set_option linter.unusedSimpArgs false
set_option maxRecDepth 100000

set_option maxHeartbeats 4000000 in
theorem s_spec_l10Copy (k : cFn Tryz.prog n_spec_l10Copy 35 [.c 2 true 6] c_spec_l10Copy) (W T : Int) (cs : List Bool) (ds ls n0 : List Int) (ps : List (List Int))
    (hc : cs.length ≤ 40) (hd : ds.length ≤ 40) (hl : ls.length ≤ 40) (hps : ps.length ≤ 100) (hp : ∀ p ∈ ps, p.length ≤ 40) (h0 : n0.length ≤ 40)
    (hnew : SoundAt Tryz.prog 119 [.agg [.v (.int .i64 W), .v (.int .i64 T), .sl 1 1 (bools cs)], .sl 1 1 (ints ds)] (bkO W T cs ds n0 []) [.bot, .bot]) :
    SoundAt Tryz.prog n_spec_l10Copy [bkA W T cs ds ls ps] (bkO W T cs ds ls ps) [.bot] := by
  refine fn_ok (md := md5) (ms := [false]) k (by simp) ?_
  simp [c_spec_l10Copy]
  refine call_on hnew ?_
  simp
  refine ⟨by omega, ?_⟩
  refine loop_by (fun m E H => ∃ i : Nat, m = ps.length - i ∧ i ≤ ps.length ∧ E = [(1, .lp 0 0 0 0), (2, .lp 0 1 0 0), (3, .lp 0 2 0 0), (4, .v (.int .i64 i))] ∧
    H = [some (.box [.v (.int .i64 W), .v (.int .i64 T), .sl 1 1 (bools cs), .sl 1 1 (ints ds), .sl 1 1 (ints ls), .sl 1 1 (sls 1 ps)]),
      some (.box [.v (.int .i64 0), .v (.int .i64 0), .os 1 [], .os 1 [], .os 1 [], .os 1 []]),
      some (.box [.v (.int .i64 W), .v (.int .i64 T), .ls 1 3 0 cs.length, .ls 1 4 0 ds.length, .ls 1 5 0 ls.length, .ls 1 6 0 i]),
      some (.arr 1 (bools cs)), some (.arr 1 (ints ds)), some (.arr 1 (ints ls)), some (.arr 1 (oss (ps.take i)))]) ps.length ⟨0, by simp⟩ ?_
  rintro J hJ m E H ⟨i, rfl, hi, rfl, rfl⟩
  by_cases h : i < ps.length
  · have et : pti ps i = ps[i] := pti_get h
    have hpl : (pti ps i).length ≤ 40 := by rw [et]; exact hp _ (List.getElem_mem h)
    have hti : (ps.take i).length = i := by simp; omega
    have key : oss (ps.take i) ++ [.os 1 (ints (pti ps i))] = oss (ps.take (i + 1)) := by
      rw [List.take_succ_eq_append_getElem h, oss_append, oss_one, et]
    have hm : min i ps.length = i := by omega
    simp [c_spec_l10Copy_L0, h, hm, key]
    exact ⟨by omega, by omega, by omega, _, by omega, hJ _ _ _ ⟨i + 1, rfl, h, by simp, by simp⟩⟩
  · have : i = ps.length := by omega
    subst this
    have htk : (oss ps).take ps.length = oss ps := List.take_of_length_le (by simp [oss])
    simp [c_spec_l10Copy_L0, htk]
end Go.Proofs.Dev

namespace Go.Proofs.Dev

theorem k_spec_l10Named : cFn Tryz.prog n_spec_l10Named 24 [.t 2] c_spec_l10Named := ⟨Tryz.f105, _, Tryz.func105, rfl, by kernel_rfl, by kernel_rfl, by kernel_rfl, by kernel_rfl⟩
theorem k_spec_l1At : cFn Tryz.prog n_spec_l1At 31 [.t 6] c_spec_l1At := ⟨Tryz.f243, _, Tryz.func243, rfl, by kernel_rfl, by kernel_rfl, by kernel_rfl, by kernel_rfl⟩
theorem k_spec_CornerMany : cFn Tryz.prog n_spec_CornerMany 13 [.t 2] c_spec_CornerMany := ⟨Tryz.f225, _, Tryz.func225, rfl, by kernel_rfl, by kernel_rfl, by kernel_rfl, by kernel_rfl⟩
theorem k_spec_l5Square : cFn Tryz.prog n_spec_l5Square 72 [.t 4, .t 5, .t 6, .t 7, .t 8] c_spec_l5Square := ⟨Tryz.f200, _, Tryz.func200, rfl, by kernel_rfl, by kernel_rfl, by kernel_rfl, by kernel_rfl⟩
theorem k_spec_FlipMay : cFn Tryz.prog n_spec_FlipMay 62 [.t 6] c_spec_FlipMay := ⟨Tryz.f199, _, Tryz.func199, rfl, by kernel_rfl, by kernel_rfl, by kernel_rfl, by kernel_rfl⟩
theorem k_spec_FlipOne : cFn Tryz.prog n_spec_FlipOne 67 [.t 6, .t 7] c_spec_FlipOne := ⟨Tryz.f142, _, Tryz.func142, rfl, by kernel_rfl, by kernel_rfl, by kernel_rfl, by kernel_rfl⟩
theorem k_spec_l10Copy : cFn Tryz.prog n_spec_l10Copy 35 [.c 2 true 6] c_spec_l10Copy := ⟨Tryz.f72, _, Tryz.func72, rfl, by kernel_rfl, by kernel_rfl, by kernel_rfl, by kernel_rfl⟩
theorem k_spec_BookDo : cFn Tryz.prog n_spec_BookDo 139 [.c 4 true 6, .t 5] c_spec_BookDo := ⟨Tryz.f73, _, Tryz.func73, rfl, by kernel_rfl, by kernel_rfl, by kernel_rfl, by kernel_rfl⟩
end Go.Proofs.Dev

namespace Go.Proofs.Dev

-- 1 parameters, results [.t 2], 34 slots, modes [false]
@[simp] abbrev n_spec_l1Number : Nat := 78

abbrev c_spec_l1Number_p0 : Plan := .take (.o 33 (.bin .add 1) [.t 26, .t 32]) <| .take (.m 2 33) <| .done
def c_spec_l1Number : ACode := .seq (.reg [.o 2 .mv [.c (.v (.string ⟨#[]⟩))]]) <| .seq (.seq (.reg [.m 3 0, .o 4 (.bin .lss 0) [.t 3, .k 0], .m 5 4,
 .mg 6 0 5 true, .mg 7 0 5 true, .g 8 (.un .neg) [.t 7] 5 true, .g 9 (.bin .eql 0) [.t 6, .t 8] 5 true, .o 10 .pick [.t 5, .t 9, .kb false]]) <|
 .cond (.t 10) ( .seq (.reg [.o 2 .mv [.c (.v (.string ⟨#[45, 57, 50, 50, 51, 51, 55, 50, 48, 51, 54, 56, 53, 52, 55, 55, 53, 56, 48, 56]⟩))]]) <|
 .ret) ( .skip)) <| .seq (.seq (.reg [.m 11 0, .o 12 (.bin .lss 0) [.t 11, .k 0]]) <| .cond (.t 12) ( .seq (.reg [.m 13 0, .o 14 (.un .neg) [.t 13],
 .o 15 (.call 78 []) [.t 14], .o 16 (.bin .add 1) [.c (.v (.string ⟨#[45]⟩)), .t 15], .m 2 16]) <| .ret) ( .skip)) <| .seq (.seq (.reg [.m 17 0,
 .o 18 (.bin .lss 0) [.t 17, .k 10]]) <| .cond (.t 18) ( .seq (.reg [.m 19 0, .o 20 (.bin .add 0) [.k 48, .t 19], .o 21 (.conv .u8) [.t 20],
 .o 22 (.bsl 1) [.t 21], .o 23 .str [.t 22], .m 2 23]) <| .ret) ( .skip)) <| .seq (.draw ( .take (.m 24 0) <| .take (.o 25 (.bin .quo 0) [.t 24, .k 10]) <|
 .take (.m 27 0) <| .take (.o 28 (.bin .rem 0) [.t 27, .k 10]) <| .take (.o 29 (.bin .add 0) [.k 48, .t 28]) <| .take (.o 30 (.conv .u8) [.t 29]) <|
 .alt (.o 26 (.call 78 []) [.t 25]) ( .al (.o 31 (.bsl 1) [.t 30]) ( .al (.o 32 .str [.t 31]) c_spec_l1Number_p0)) <| .al (.o 31 (.bsl 1) [.t 30]) ( .alt (.o 26 (.call 78 []) [.t 25]) ( .al (.o 32 .str [.t 31]) c_spec_l1Number_p0) <| .al (.o 32 .str [.t 31]) ( .al (.o 26 (.call 78 []) [.t 25]) c_spec_l1Number_p0)))) <| .ret

theorem k_spec_l1Number : cFn Tryz.prog n_spec_l1Number 34 [.t 2] c_spec_l1Number := ⟨Tryz.f78, _, Tryz.func78, rfl, by kernel_rfl, by kernel_rfl, by kernel_rfl, by kernel_rfl⟩

end Go.Proofs.Dev

namespace Go.Proofs.Dev

-- 1 parameters, results [.t 2], 24 slots, modes [false]
-- 1 parameters, results [.t 2], 24 slots, modes [false]
-- 1 parameters, results [.t 2], 10 slots, modes [false]
@[simp] abbrev n_spec_l10Letter : Nat := 107

def c_spec_l10Letter : ACode := .seq (.reg [.o 2 .mv [.c (.v (.string ⟨#[]⟩))]]) <| .seq (.seq (.reg [.m 3 0, .o 4 (.call 106 []) [.t 3, .k 1, .k 4],
 .o 5 (.un .not) [.t 4]]) <| .cond (.t 5) ( .seq (.reg [.o 2 .mv [.c (.v (.string ⟨#[]⟩))]]) <| .ret) ( .skip)) <|
 .seq (.reg [.o 6 (.bsl 1) [.c (.v (.string ⟨#[]⟩)), .c (.v (.string ⟨#[101]⟩)), .c (.v (.string ⟨#[110]⟩)), .c (.v (.string ⟨#[119]⟩)),
 .c (.v (.string ⟨#[115]⟩))], .m 7 0, .o 8 (.iadr 1) [.t 6, .t 7], .l 9 8, .m 2 9]) <| .ret

theorem k_spec_l10Letter : cFn Tryz.prog n_spec_l10Letter 10 [.t 2] c_spec_l10Letter := ⟨Tryz.f107, _, Tryz.func107, rfl, by kernel_rfl, by kernel_rfl, by kernel_rfl, by kernel_rfl⟩

-- 1 parameters, results [.t 2], 15 slots, modes [false]
@[simp] abbrev n_internalstrconv_small : Nat := 230

def c_internalstrconv_small : ACode := .seq (.reg [.o 2 .mv [.c (.v (.string ⟨#[]⟩))]]) <| .seq (.seq (.reg [.m 3 0, .o 4 (.bin .lss 0) [.t 3, .k 10]]) <|
 .cond (.t 4) ( .seq (.reg [.m 5 0, .m 6 0, .o 7 (.bin .add 0) [.t 6, .k 1], .o 8 (.sslice true true) [.c (.v (.string ⟨#[48, 49, 50, 51, 52, 53, 54, 55, 56, 57,
 97, 98, 99, 100, 101, 102, 103, 104, 105, 106, 107, 108, 109, 110, 111, 112, 113, 114, 115, 116, 117, 118, 119, 120, 121, 122]⟩)), .t 5, .t 7], .m 2 8]) <|
 .ret) ( .skip)) <| .seq (.reg [.m 9 0, .o 10 (.bin .mul 0) [.t 9, .k 2], .m 11 0, .o 12 (.bin .mul 0) [.t 11, .k 2], .o 13 (.bin .add 0) [.t 12, .k 2],
 .o 14 (.sslice true true) [.c (.v (.string ⟨#[48, 48, 48, 49, 48, 50, 48, 51, 48, 52, 48, 53, 48, 54, 48, 55, 48, 56, 48, 57, 49, 48, 49, 49, 49, 50, 49, 51,
 49, 52, 49, 53, 49, 54, 49, 55, 49, 56, 49, 57, 50, 48, 50, 49, 50, 50, 50, 51, 50, 52, 50, 53, 50, 54, 50, 55, 50, 56, 50, 57, 51, 48, 51, 49, 51, 50, 51, 51,
 51, 52, 51, 53, 51, 54, 51, 55, 51, 56, 51, 57, 52, 48, 52, 49, 52, 50, 52, 51, 52, 52, 52, 53, 52, 54, 52, 55, 52, 56, 52, 57, 53, 48, 53, 49, 53, 50, 53, 51,
 53, 52, 53, 53, 53, 54, 53, 55, 53, 56, 53, 57, 54, 48, 54, 49, 54, 50, 54, 51, 54, 52, 54, 53, 54, 54, 54, 55, 54, 56, 54, 57, 55, 48, 55, 49, 55, 50, 55, 51,
 55, 52, 55, 53, 55, 54, 55, 55, 55, 56, 55, 57, 56, 48, 56, 49, 56, 50, 56, 51, 56, 52, 56, 53, 56, 54, 56, 55, 56, 56, 56, 57, 57, 48, 57, 49, 57, 50, 57, 51,
 57, 52, 57, 53, 57, 54, 57, 55, 57, 56, 57, 57]⟩)), .t 10, .t 13], .m 2 14]) <| .ret

theorem k_internalstrconv_small : cFn Tryz.prog n_internalstrconv_small 15 [.t 2] c_internalstrconv_small := ⟨Tryz.f230, _, Tryz.func230, rfl, by kernel_rfl, by kernel_rfl, by kernel_rfl, by kernel_rfl⟩

-- 2 parameters, results [.t 4], 54 slots, modes [false, false]
@[simp] abbrev n_internalstrconv_FormatInt : Nat := 187

def c_internalstrconv_FormatInt : ACode := .seq (.reg [.o 4 .mv [.c (.v (.string ⟨#[]⟩))]]) <| .seq (.seq (.reg [.m 10 1, .o 11 (.bin .eql 0) [.t 10,
 .k 10]]) <| .cond (.t 11) ( .seq (.seq (.reg [.m 12 0, .o 13 (.bin .leq 0) [.k 0, .t 12], .m 14 13, .mg 15 0 14 true, .g 16 (.bin .lss 0) [.t 15,
 .k 100] 14 true, .o 17 .pick [.t 14, .t 16, .kb false]]) <| .cond (.t 17) ( .seq (.reg [.m 18 0, .o 19 (.call 230 []) [.t 18], .m 4 19]) <| .ret) ( .skip)) <|
 .seq (.reg [.o 5 (.alloc [.v (.int .u8 (0)), .v (.int .u8 (0)), .v (.int .u8 (0)), .v (.int .u8 (0)), .v (.int .u8 (0)), .v (.int .u8 (0)), .v (.int .u8 (0)),
 .v (.int .u8 (0)), .v (.int .u8 (0)), .v (.int .u8 (0)), .v (.int .u8 (0)), .v (.int .u8 (0)), .v (.int .u8 (0)), .v (.int .u8 (0)), .v (.int .u8 (0)),
 .v (.int .u8 (0)), .v (.int .u8 (0)), .v (.int .u8 (0)), .v (.int .u8 (0)), .v (.int .u8 (0)), .v (.int .u8 (0)), .v (.int .u8 (0)), .v (.int .u8 (0)),
 .v (.int .u8 (0))]) []]) <| .seq (.reg [.m 20 0, .o 21 (.conv .u64) [.t 20], .m 6 21]) <| .seq (.seq (.reg [.m 22 0, .o 23 (.bin .lss 0) [.t 22, .k 0]]) <|
 .cond (.t 23) ( .reg [.m 24 6, .o 25 (.un .neg) [.t 24], .m 6 25]) ( .skip)) <| .seq (.reg [.m 26 6, .o 27 (.call 231 []) [.t 26], .m 7 27]) <| .seq (.fail) <|
 .seq (.seq (.reg [.m 33 0, .o 34 (.bin .lss 0) [.t 33, .k 0]]) <| .cond (.t 34) ( .seq (.reg [.f 35 0 5, .s (.store 1) [.t 35, .c (.v (.int .u8 (45)))]]) <|
 .seq (.fail) <| .ret) ( .skip)) <| .seq (.fail) <| .ret) ( .skip)) <| .seq (.reg [.m 45 0, .o 46 (.conv .u64) [.t 45], .m 47 1, .m 48 0,
 .o 49 (.bin .lss 0) [.t 48, .k 0], .o 50 (.call 233 []) [.c (.os 1 []), .t 46, .t 47, .t 49, .kb false], .m 44 50, .e 51 0 44, .e 52 1 44, .m 8 51, .m 9 52]) <|
 .seq (.reg [.m 53 9, .m 4 53]) <| .ret

theorem k_internalstrconv_FormatInt : cFn Tryz.prog n_internalstrconv_FormatInt 54 [.t 4] c_internalstrconv_FormatInt := ⟨Tryz.f187, _, Tryz.func187, rfl, by kernel_rfl, by kernel_rfl, by kernel_rfl, by kernel_rfl⟩

-- 1 parameters, results [.t 2], 5 slots, modes [false]
@[simp] abbrev n_internalstrconv_Itoa : Nat := 134

def c_internalstrconv_Itoa : ACode := .seq (.reg [.o 2 .mv [.c (.v (.string ⟨#[]⟩))]]) <| .seq (.reg [.m 3 0, .o 4 (.call 187 []) [.t 3, .k 10], .m 2 4]) <|
 .ret

theorem k_internalstrconv_Itoa : cFn Tryz.prog n_internalstrconv_Itoa 5 [.t 2] c_internalstrconv_Itoa := ⟨Tryz.f134, _, Tryz.func134, rfl, by kernel_rfl, by kernel_rfl, by kernel_rfl, by kernel_rfl⟩

-- 1 parameters, results [.t 2], 5 slots, modes [false]
@[simp] abbrev n_strconv_Itoa : Nat := 64

def c_strconv_Itoa : ACode := .seq (.reg [.o 2 .mv [.c (.v (.string ⟨#[]⟩))]]) <| .seq (.reg [.m 3 0, .o 4 (.call 134 []) [.t 3], .m 2 4]) <| .ret

theorem k_strconv_Itoa : cFn Tryz.prog n_strconv_Itoa 5 [.t 2] c_strconv_Itoa := ⟨Tryz.f64, _, Tryz.func64, rfl, by kernel_rfl, by kernel_rfl, by kernel_rfl, by kernel_rfl⟩

-- 1 parameters, results [.t 2], 46 slots, modes [false]
@[simp] abbrev n_spec_DeedText : Nat := 48

def c_spec_DeedText : ACode := .seq (.reg [.o 1 .box [.t 0], .o 2 .mv [.c (.v (.string ⟨#[]⟩))]]) <| .seq (.seq (.reg [.la 4 3 1, .o 5 (.call 105 []) [.t 4],
 .o 6 (.un .not) [.t 5], .m 7 6, .fg 8 1 1 7 false, .lg 9 8 7 false, .g 10 (.call 106 []) [.t 9, .k 0, .k 99] 7 false, .g 11 (.un .not) [.t 10] 7 false,
 .o 12 .pick [.t 7, .kb true, .t 11]]) <| .cond (.t 12) ( .seq (.reg [.o 2 .mv [.c (.v (.string ⟨#[]⟩))]]) <| .ret) ( .skip)) <|
 .seq (.reg [.o 13 (.bsl 1) [.c (.v (.string ⟨#[108, 97, 121]⟩)), .c (.v (.string ⟨#[108, 105, 102, 116]⟩)), .c (.v (.string ⟨#[102, 108, 105, 112]⟩)),
 .c (.v (.string ⟨#[102, 111, 114, 99, 101]⟩)), .c (.v (.string ⟨#[98, 97, 99, 107]⟩))], .f 14 0 1, .l 15 14, .o 16 (.iadr 1) [.t 13, .t 15], .l 17 16,
 .m 3 17]) <| .seq (.seq (.reg [.f 18 0 1, .l 19 18, .o 20 (.bin .leq 0) [.t 19, .k 2]]) <| .cond (.t 20) ( .reg [.m 21 3, .o 22 (.bin .add 1) [.t 21,
 .c (.v (.string ⟨#[32]⟩))], .f 23 1 1, .l 24 23, .o 25 (.call 78 []) [.t 24], .o 26 (.bin .add 1) [.t 22, .t 25], .m 3 26]) ( .skip)) <|
 .seq (.seq (.reg [.f 27 0 1, .l 28 27, .o 29 (.bin .eql 0) [.t 28, .k 0], .m 30 29, .fg 31 2 1 30 true, .lg 32 31 30 true, .g 33 (.call 107 []) [.t 32] 30 true,
 .g 34 (.bin .eql 1) [.t 33, .c (.v (.string ⟨#[]⟩))] 30 true, .o 35 .pick [.t 30, .t 34, .kb false]]) <|
 .cond (.t 35) ( .seq (.reg [.o 2 .mv [.c (.v (.string ⟨#[]⟩))]]) <| .ret) ( .skip)) <| .seq (.seq (.reg [.f 36 0 1, .l 37 36, .o 38 (.bin .eql 0) [.t 37,
 .k 0]]) <| .cond (.t 38) ( .reg [.m 39 3, .o 40 (.bin .add 1) [.t 39, .c (.v (.string ⟨#[32]⟩))], .f 41 2 1, .l 42 41, .o 43 (.call 107 []) [.t 42],
 .o 44 (.bin .add 1) [.t 40, .t 43], .m 3 44]) ( .skip)) <| .seq (.reg [.m 45 3, .m 2 45]) <| .ret

theorem k_spec_DeedText : cFn Tryz.prog n_spec_DeedText 46 [.t 2] c_spec_DeedText := ⟨Tryz.f48, _, Tryz.func48, rfl, by kernel_rfl, by kernel_rfl, by kernel_rfl, by kernel_rfl⟩

-- 1 parameters, results [.t 2], 51 slots, modes [false]
@[simp] abbrev n_impl_DeedText : Nat := 20

def c_impl_DeedText : ACode := .seq (.reg [.o 1 .box [.t 0], .o 2 .mv [.c (.v (.string ⟨#[]⟩))]]) <| .seq (.seq (.reg [.la 4 3 1, .o 5 (.call 62 []) [.t 4],
 .o 6 (.un .not) [.t 5], .m 7 6, .fg 8 1 1 7 false, .lg 9 8 7 false, .g 10 (.call 63 []) [.t 9, .k 0, .k 99] 7 false, .g 11 (.un .not) [.t 10] 7 false,
 .o 12 .pick [.t 7, .kb true, .t 11], .m 13 12, .fg 14 0 1 13 false, .lg 15 14 13 false, .g 16 (.bin .eql 0) [.t 15, .k 0] 13 false, .mg 17 16 13 false,
 .fg 18 2 1 17 true, .lg 19 18 17 true, .g 20 (.call 63 []) [.t 19, .k 1, .k 4] 17 true, .g 21 (.un .not) [.t 20] 17 true, .g 22 .pick [.t 17, .t 21,
 .kb false] 13 false, .o 23 .pick [.t 13, .kb true, .t 22]]) <| .cond (.t 23) ( .seq (.reg [.o 2 .mv [.c (.v (.string ⟨#[]⟩))]]) <| .ret) ( .skip)) <|
 .seq (.reg [.o 24 (.load false 1) [.c (.vp 0 [.sl 0 1 [.v (.string ⟨#[108, 97, 121]⟩), .v (.string ⟨#[108, 105, 102, 116]⟩), .v (.string ⟨#[102, 108, 105,
 112]⟩), .v (.string ⟨#[102, 111, 114, 99, 101]⟩), .v (.string ⟨#[98, 97, 99, 107]⟩)]] 0)], .f 25 0 1, .l 26 25, .o 27 (.iadr 1) [.t 24, .t 26], .l 28 27,
 .m 3 28]) <| .seq (.seq (.reg [.f 29 0 1, .l 30 29, .o 31 (.bin .leq 0) [.t 30, .k 2]]) <| .cond (.t 31) ( .reg [.m 32 3, .f 33 1 1, .l 34 33,
 .o 35 (.call 64 []) [.t 34], .o 36 (.bin .add 1) [.c (.v (.string ⟨#[32]⟩)), .t 35], .o 37 (.bin .add 1) [.t 32, .t 36], .m 3 37]) ( .skip)) <|
 .seq (.seq (.reg [.f 38 0 1, .l 39 38, .o 40 (.bin .eql 0) [.t 39, .k 0]]) <| .cond (.t 40) ( .reg [.m 41 3, .f 42 2 1, .l 43 42, .f 44 2 1, .l 45 44,
 .o 46 (.bin .add 0) [.t 45, .k 1], .o 47 (.sslice true true) [.c (.v (.string ⟨#[35, 101, 110, 119, 115]⟩)), .t 43, .t 46],
 .o 48 (.bin .add 1) [.c (.v (.string ⟨#[32]⟩)), .t 47], .o 49 (.bin .add 1) [.t 41, .t 48], .m 3 49]) ( .skip)) <| .seq (.reg [.m 50 3, .m 2 50]) <| .ret

theorem k_impl_DeedText : cFn Tryz.prog n_impl_DeedText 51 [.t 2] c_impl_DeedText := ⟨Tryz.f20, _, Tryz.func20, rfl, by kernel_rfl, by kernel_rfl, by kernel_rfl, by kernel_rfl⟩

end Go.Proofs.Dev

namespace Go.Proofs.Dev

-- 2 parameters, results [.t 4], 19 slots, modes [false, false]
@[simp] abbrev n_slices_Index_string_string : Nat := 113
def c_slices_Index_string_string_L0 : ACode := .seq (.reg [.o 9 (.bin .lss 0) [.t 8, .t 7]]) <| .seq (.cond (.t 9) ( .skip) ( .exit 0)) <|
 .seq (.block 1 ( .seq (.reg [.m 10 8, .m 5 10]) <| .seq (.reg [.m 11 1, .m 12 0, .m 13 5, .o 14 (.iadr 1) [.t 12, .t 13], .l 15 14, .o 16 (.bin .eql 1) [.t 11,
 .t 15]]) <| .cond (.t 16) ( .seq (.reg [.m 17 5, .m 4 17]) <| .ret) ( .skip))) <| .reg [.o 18 (.bin .add 0) [.t 8, .k 1], .m 8 18]

def c_slices_Index_string_string : ACode := .seq (.reg [.o 4 .mv [.k 0]]) <| .seq (.seq (.reg [.m 6 0, .n 7 6, .o 8 .mv [.k 0]]) <| .block 0 ( .loop [(0,
 1)] [0, 1, 7, 8] c_slices_Index_string_string_L0)) <| .seq (.reg [.o 4 .mv [.k (-1)]]) <| .ret

theorem k_slices_Index_string_string : cFn Tryz.prog n_slices_Index_string_string 19 [.t 4] c_slices_Index_string_string := ⟨Tryz.f113, _, Tryz.func113, rfl, by kernel_rfl, by kernel_rfl, by kernel_rfl, by kernel_rfl⟩

-- 1 parameters, results [.c 2 true 3, .t 3], 44 slots, modes [false]
@[simp] abbrev n_impl_ReadDeed : Nat := 52
def c_impl_ReadDeed_T0 : ACode := .seq (.seq (.reg [.f 14 0 5, .l 15 14, .o 16 (.bin .lss 0) [.t 15, .k 0]]) <|
 .cond (.t 16) ( .seq (.reg [.o 17 (.build dz []) [], .s (.store 3) [.t 2, .t 17], .o 3 .mv [.kb false]]) <| .ret) ( .skip)) <| .seq (.seq (.reg [.m 18 4,
 .n 19 18, .o 20 (.bin .gtr 0) [.t 19, .k 1]]) <| .cond (.t 20) ( .reg [.m 22 4, .o 23 (.iadr 1) [.t 22, .k 1], .l 24 23, .o 25 (.call 114 []) [.t 24], .m 21 25,
 .e 26 0 21, .e 27 1 21, .f 28 1 5, .s (.store 1) [.t 28, .t 26]]) ( .skip)) <| .seq (.seq (.reg [.m 29 4, .n 30 29, .o 31 (.bin .gtr 0) [.t 30, .k 2]]) <|
 .cond (.t 31) ( .reg [.m 32 4, .o 33 (.iadr 1) [.t 32, .k 2], .l 34 33, .o 35 (.call 115 []) [.c (.v (.string ⟨#[35, 101, 110, 119, 115]⟩)), .t 34],
 .o 36 (.mnx false) [.k 0, .t 35], .f 37 2 5, .s (.store 1) [.t 37, .t 36]]) ( .skip)) <| .seq (.seq (.reg [.la 38 3 5, .o 39 (.call 20 []) [.t 38], .m 40 0,
 .o 41 (.bin .neq 1) [.t 39, .t 40]]) <| .cond (.t 41) ( .seq (.reg [.o 42 (.build dz []) [], .s (.store 3) [.t 2, .t 42], .o 3 .mv [.kb false]]) <|
 .ret) ( .skip)) <| .seq (.reg [.la 43 3 5, .s (.store 3) [.t 2, .t 43], .o 3 .mv [.kb true]]) <| .ret

abbrev c_impl_ReadDeed_p0 : Plan := .al (.o 12 (.call 113 []) [.t 8, .t 11]) ( .take (.o 13 (.build dz [(0, 1)]) [.t 12]) <| .al (.s (.store 3) [.t 5, .t 13]) ( .done))
abbrev c_impl_ReadDeed_p1 : Plan := .al (.o 8 (.load false 1) [.c (.vp 0 [.sl 0 1 [.v (.string ⟨#[108, 97, 121]⟩), .v (.string ⟨#[108, 105, 102, 116]⟩), .v (.string ⟨#[102, 108, 105, 112]⟩), .v (.string ⟨#[102, 111, 114, 99, 101]⟩), .v (.string ⟨#[98, 97, 99, 107]⟩)]] 0)]) c_impl_ReadDeed_p0
abbrev c_impl_ReadDeed_p2 : Plan := .alt (.o 12 (.call 113 []) [.t 8, .t 11]) ( .take (.o 13 (.build dz [(0, 1)]) [.t 12]) <| .al (.o 5 (.alloc dz) []) ( .al (.s (.store 3) [.t 5, .t 13]) ( .done))) <| .al (.o 5 (.alloc dz) []) c_impl_ReadDeed_p0
def c_impl_ReadDeed : ACode := .seq (.reg [.o 2 (.alloc dz) [], .o 3 .mv [.kb false]]) <| .seq (.reg [.m 6 0, .o 7 (.call 112 []) [.t 6,
 .c (.v (.string ⟨#[32]⟩))], .m 4 7]) <| .seq (.draw ( .take (.m 9 4) <| .take (.o 10 (.iadr 1) [.t 9, .k 0]) <|
 .alt (.o 8 (.load false 1) [.c (.vp 0 [.sl 0 1 [.v (.string ⟨#[108, 97, 121]⟩), .v (.string ⟨#[108, 105, 102, 116]⟩), .v (.string ⟨#[102, 108, 105, 112]⟩),
 .v (.string ⟨#[102, 111, 114, 99, 101]⟩), .v (.string ⟨#[98, 97, 99, 107]⟩)]] 0)]) ( .alt (.l 11 10) c_impl_ReadDeed_p2 <| .al (.o 5 (.alloc dz) []) ( .al (.l 11 10) c_impl_ReadDeed_p0)) <| .alt (.l 11 10) ( .alt (.o 8 (.load false 1) [.c (.vp 0 [.sl 0 1 [.v (.string ⟨#[108, 97, 121]⟩),
 .v (.string ⟨#[108, 105, 102, 116]⟩), .v (.string ⟨#[102, 108, 105, 112]⟩), .v (.string ⟨#[102, 111, 114, 99, 101]⟩), .v (.string ⟨#[98, 97, 99,
 107]⟩)]] 0)]) c_impl_ReadDeed_p2 <| .al (.o 5 (.alloc dz) []) c_impl_ReadDeed_p1) <|
 .al (.o 5 (.alloc dz) []) ( .alt (.o 8 (.load false 1) [.c (.vp 0 [.sl 0 1 [.v (.string ⟨#[108, 97, 121]⟩), .v (.string ⟨#[108, 105, 102, 116]⟩),
 .v (.string ⟨#[102, 108, 105, 112]⟩), .v (.string ⟨#[102, 111, 114, 99, 101]⟩), .v (.string ⟨#[98, 97, 99,
 107]⟩)]] 0)]) ( .al (.l 11 10) c_impl_ReadDeed_p0) <| .al (.l 11 10) c_impl_ReadDeed_p1))) <| .gc [] [0, 2, 4, 5] c_impl_ReadDeed_T0

theorem k_impl_ReadDeed : cFn Tryz.prog n_impl_ReadDeed 44 [.c 2 true 3, .t 3] c_impl_ReadDeed := ⟨Tryz.f52, _, Tryz.func52, rfl, by kernel_rfl, by kernel_rfl, by kernel_rfl, by kernel_rfl⟩

end Go.Proofs.Dev

namespace Go.Proofs.Dev

end Go.Proofs.Dev

namespace Go.Proofs.Dev

-- 1 parameters, results [.t 2], 26 slots, modes [false]
@[simp] abbrev n_spec_JournalText : Nat := 11
def c_spec_JournalText_L0 : ACode := .seq (.seq (.reg [.m 5 4, .m 6 0, .n 7 6, .o 8 (.bin .lss 0) [.t 5, .t 7]]) <| .cond (.t 8) ( .skip) ( .exit 0)) <|
 .seq (.block 1 ( .seq (.seq (.reg [.m 11 0, .m 12 4, .o 13 (.iadr 3) [.t 11, .t 12], .la 14 3 13, .o 15 (.call 48 []) [.t 14], .o 16 (.bin .eql 1) [.t 15,
 .c (.v (.string ⟨#[]⟩))]]) <| .cond (.t 16) ( .seq (.reg [.o 2 .mv [.c (.v (.string ⟨#[]⟩))]]) <| .ret) ( .skip)) <| .reg [.m 17 3, .m 18 0, .m 19 4,
 .o 20 (.iadr 3) [.t 18, .t 19], .la 21 3 20, .o 22 (.call 48 []) [.t 21], .o 23 (.bin .add 1) [.t 17, .t 22], .o 24 (.bin .add 1) [.t 23,
 .c (.v (.string ⟨#[10]⟩))], .m 3 24])) <| .reg [.m 9 4, .o 10 (.bin .add 0) [.t 9, .k 1], .m 4 10]

def c_spec_JournalText : ACode := .seq (.reg [.o 2 .mv [.c (.v (.string ⟨#[]⟩))]]) <| .seq (.reg [.o 3 .mv [.c (.v (.string ⟨#[]⟩))]]) <|
 .seq (.seq (.reg [.o 4 .mv [.k 0]]) <| .block 0 ( .loop [(0, 3)] [0, 3, 4] c_spec_JournalText_L0)) <| .seq (.reg [.m 25 3, .m 2 25]) <| .ret

theorem k_spec_JournalText : cFn Tryz.prog n_spec_JournalText 26 [.t 2] c_spec_JournalText := ⟨Tryz.f11, _, Tryz.func11, rfl, by kernel_rfl, by kernel_rfl, by kernel_rfl, by kernel_rfl⟩

-- 1 parameters, results [.t 2], 31 slots, modes [true]
@[simp] abbrev n_spec_l20Written : Nat := 44
def c_spec_l20Written_L0 : ACode := .seq (.seq (.reg [.m 11 5, .m 12 4, .n 13 12, .o 14 (.bin .lss 0) [.t 11, .t 13]]) <| .cond (.t 14) ( .skip) ( .exit 0)) <|
 .seq (.block 1 ( .seq (.reg [.m 17 4, .m 18 5, .o 19 (.iadr 3) [.t 17, .t 18], .la 20 3 19, .o 21 (.call 48 []) [.t 20], .o 22 (.bin .neq 1) [.t 21,
 .c (.v (.string ⟨#[]⟩))]]) <| .cond (.t 22) ( .reg [.m 23 3, .m 24 4, .m 25 5, .o 26 (.iadr 3) [.t 24, .t 25], .la 27 3 26, .o 28 (.bsl 3) [.t 27],
 .o 29 (.app 3 24 true) [.t 23, .t 28], .m 3 29]) ( .skip))) <| .reg [.m 15 5, .o 16 (.bin .add 0) [.t 15, .k 1], .m 5 16]

def c_spec_l20Written : ACode := .seq (.reg [.o 2 .mv [.c (.os 3 [])]]) <| .seq (.reg [.o 6 (.bsl 3) [], .m 3 6]) <| .seq (.reg [.m 7 0, .m 8 0,
 .o 9 (.call 57 []) [.t 8, .k 0], .o 10 (.call 58 []) [.t 7, .t 9], .m 4 10]) <| .seq (.seq (.reg [.o 5 .mv [.k 0]]) <| .block 0 ( .loop [(3, 3), (4, 3)] [3, 4,
 5, 31] c_spec_l20Written_L0)) <| .seq (.reg [.m 30 3, .m 2 30]) <| .ret

theorem k_spec_l20Written : cFn Tryz.prog n_spec_l20Written 31 [.t 2] c_spec_l20Written := ⟨Tryz.f44, _, Tryz.func44, rfl, by kernel_rfl, by kernel_rfl, by kernel_rfl, by kernel_rfl⟩

-- 1 parameters, results [.t 2], 16 slots, modes [false]
@[simp] abbrev n_spec_DrawJournalText : Nat := 9

def c_spec_DrawJournalText : ACode := .seq (.reg [.o 2 .mv [.c (.os 3 [])]]) <| .seq (.reg [.m 5 0, .o 6 (.call 43 []) [.t 5], .m 3 6]) <| .seq (.reg [.m 7 3,
 .o 8 (.call 44 []) [.t 7], .m 4 8]) <| .seq (.seq (.reg [.m 9 3, .o 10 (.call 45 []) [.t 9, .k 12]]) <| .cond (.t 10) ( .reg [.m 11 4, .o 12 (.build dz [(0,
 1)]) [.k 9], .o 13 (.bsl 3) [.t 12], .o 14 (.app 3 24 true) [.t 11, .t 13], .m 4 14]) ( .skip)) <| .seq (.reg [.m 15 4, .m 2 15]) <| .ret

theorem k_spec_DrawJournalText : cFn Tryz.prog n_spec_DrawJournalText 16 [.t 2] c_spec_DrawJournalText := ⟨Tryz.f9, _, Tryz.func9, rfl, by kernel_rfl, by kernel_rfl, by kernel_rfl, by kernel_rfl⟩

-- 1 parameters, results [.t 2], 35 slots, modes [false]
@[simp] abbrev n_laws_FnJournalText : Nat := 3

def c_laws_FnJournalText : ACode := .seq (.reg [.o 2 .mv [.kb false]]) <| .seq (.seq (.reg [.m 7 0, .n 8 7, .o 9 (.bin .gtr 0) [.t 8, .k 1048576]]) <|
 .cond (.t 9) ( .seq (.reg [.o 2 .mv [.kb true]]) <| .ret) ( .skip)) <| .seq (.reg [.m 10 0, .o 11 (.call 9 []) [.t 10], .m 3 11]) <| .seq (.reg [.m 12 3,
 .o 13 (.call 10 []) [.t 12], .m 4 13]) <| .seq (.seq (.reg [.m 14 4, .m 15 3, .o 16 (.call 11 []) [.t 15], .o 17 (.bin .neq 1) [.t 14, .t 16]]) <|
 .cond (.t 17) ( .seq (.reg [.o 2 .mv [.kb false]]) <| .ret) ( .skip)) <| .seq (.seq (.reg [.m 18 4, .o 19 (.bin .eql 1) [.t 18, .c (.v (.string ⟨#[]⟩))]]) <|
 .cond (.t 19) ( .seq (.reg [.o 20 (.call 12 []) [], .m 2 20]) <| .ret) ( .skip)) <| .seq (.reg [.m 22 4, .o 23 (.call 13 []) [.t 22], .m 21 23, .e 24 0 21,
 .e 25 1 21, .m 5 24, .m 6 25]) <| .seq (.reg [.m 26 5, .m 27 3, .o 28 (.call 14 []) [.t 26, .t 27], .m 29 28, .mg 30 6 29 true, .mg 31 4 29 true,
 .g 32 (.len true) [.t 31] 29 true, .g 33 (.bin .eql 0) [.t 30, .t 32] 29 true, .o 34 .pick [.t 29, .t 33, .kb false], .m 2 34]) <| .ret

theorem k_laws_FnJournalText : cFn Tryz.prog n_laws_FnJournalText 35 [.t 2] c_laws_FnJournalText := ⟨Tryz.f3, _, Tryz.func3, rfl, by kernel_rfl, by kernel_rfl, by kernel_rfl, by kernel_rfl⟩

end Go.Proofs.Dev
