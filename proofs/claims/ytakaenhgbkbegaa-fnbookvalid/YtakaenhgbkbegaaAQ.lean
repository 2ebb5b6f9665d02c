/- Contracts of the functions of the program over slots and rows, each proved against the program itself; no condition beyond those that each theorem names. -/
import Derived.Test.YtakaenhgbkbegaaAP
import Derived.Test.YtakaenhgbkbegaaAN
import Derived.Test.YtakaenhgbkbegaaProg
import Derived.Test.YtakaenhgbkbegaaAO

set_option linter.unusedSimpArgs false
set_option linter.unusedVariables false

namespace Go.Proofs.Dev
set_option linter.unusedSimpArgs false
set_option maxRecDepth 100000

/-- A puzzle is drawn. -/
def puzSet (bs : List Int) (p d : Nat) (r : AV) (ups : List AV) : Prop := ∃ (W T : Int) (cs : List Bool) (ds : List Int) (q : Nat), r = .tup [regA W T cs, .os 1 (ints ds)] ∧ cs.length ≤ 37 ∧ ds.length ≤ 37 ∧ q ≤ p + d ∧ ups = [rdA bs q, .bot]

def c_puzA : ACode := (.seq (.reg [.m 32 8, .o 33 (.un .not) [.t 32], .m 34 33, .mg 35 0 34 false, .g 36 (.call 18 []) [.t 35, .k 3] 34 false,
 .g 37 (.bin .eql 0) [.t 36, .k 0] 34 false, .o 38 .pick [.t 34, .kb true, .t 37]]) <| .cond (.t 38) ( .seq (.reg [.o 39 (.bsl 1) [], .m 9 39]) <|
 .seq (.reg [.m 40 0, .o 41 (.call 18 []) [.t 40, .k 6], .o 42 (.bin .add 0) [.k 2, .t 41], .m 10 42]) <| .seq (.reg [.o 11 .mv [.k 0]]) <| .block 0 ( .loop [(9,
 1)] [0, 1, 4, 6, 9, 10, 11, 87] c_spec_l20Puzzle_L0)) ( .skip))
def c_puz_T : ACode := .seq (.seq (.reg [.m 65 0, .m 66 1, .o 67 (.bin .mul 0) [.k 2, .t 66], .o 68 (.call 21 []) [.t 65, .t 67], .m 69 68, .mg 70 9 69 true,
 .g 71 (.len false) [.t 70] 69 true, .g 72 (.bin .gtr 0) [.t 71, .k 0] 69 true, .o 73 .pick [.t 69, .t 72, .kb false]]) <| .cond (.t 73) ( .reg [.m 74 9,
 .m 75 0, .m 76 9, .n 77 76, .o 78 (.call 18 []) [.t 75, .t 77], .o 79 (.bsl 1) [.k (-1), .k 7, .k 0], .m 80 0, .o 81 (.call 18 []) [.t 80, .k 3],
 .o 82 (.iadr 1) [.t 79, .t 81], .l 83 82, .o 84 (.iadr 1) [.t 74, .t 78], .s (.store 1) [.t 84, .t 83]]) ( .skip)) <| .seq (.reg [.la 85 3 6, .m 86 9,
 .s (.store 3) [.t 4, .t 85], .m 5 86]) <| .ret
theorem puz_parts : c_spec_l20Puzzle_T1 = .seq c_puzA c_puz_T := rfl

abbrev puzH (bs : List Int) (q : Nat) (W T : Int) (cs : List Bool) (ds : List Int) : Heap :=
  [some (.box [.sl 0 1 (u8s bs), .v (.int .i64 q)]), some (.box [.v (.int .i64 0), .v (.int .i64 0), .os 1 []]), some (.box [.v (.int .i64 W), .v (.int .i64 T), .ls 1 4 0 cs.length]), some (.arr 1 (ints ds)), some (.arr 1 (bools cs))]

abbrev nd3 : List AV := [AV.v (.int .i64 (-1)), AV.v (.int .i64 7), AV.v (.int .i64 0)]
theorem ndget {x : Int} (h0 : 0 ≤ x) (h1 : x < 3) : ∃ v : Int, ∀ h : x.toNat < nd3.length, nd3[x.toNat]'h = .v (.int .i64 v) := by
  obtain rfl | rfl | rfl : x = 0 ∨ x = 1 ∨ x = 2 := by omega
  · exact ⟨-1, fun _ => rfl⟩
  · exact ⟨7, fun _ => rfl⟩
  · exact ⟨0, fun _ => rfl⟩

theorem puz_tail (bs : List Int) (p q : Nat) (n W T : Int) (cs : List Bool) (ds : List Int) (hb : bs.length ≤ 2000) (hB : Byt bs) (hp : p < 2 ^ 35) (hn0 : 0 ≤ n) (hn : n < 2 ^ 20) (hcs : cs.length ≤ 37) (hds : ds.length ≤ 37) (hq : q ≤ p + 550) (E : ES)
    (e0 : get E 0 = .lp 0 0 0 0) (e1 : get E 1 = .v (.int .i64 n)) (e4 : get E 4 = .lp 0 1 0 0) (e6 : get E 6 = .lp 0 2 0 0) (e9 : get E 9 = .ls 1 3 0 ds.length) (e87 : get E 87 = .lp 0 0 0 0) :
    awp Try.prog md5 c_puz_T (FinS [RV.c 4 true 3, RV.t 5] 87 2 [true, false] (puzSet bs p 600)) E (puzH bs q W T cs ds) := by
  have fin : ∀ (ds2 : List Int) (q2 : Nat), ds2.length ≤ 37 → q2 ≤ p + 600 → puzSet bs p 600 (.tup [regA W T cs, .os 1 (ints ds2)]) [rdA bs q2, .bot] := fun ds2 q2 h1 h2 => ⟨W, T, cs, ds2, q2, rfl, hcs, h1, h2, rfl⟩
  simp [c_puz_T, e0, e1, e4, e6, e9, e87]
  refine ⟨by omega, ?_⟩
  refine call_onK (s_spec_l20Rd_odd bs q (2 * n) hb hB (by omega) (by omega)) [0] (by simp) (by simp) (by simp) ?_
  rintro _ _ ⟨b, q2, rfl, hq2, rfl⟩
  cases b with
  | false =>
    simp [get_purgeE, e0, e1, e4, e6, e9, e87]
    refine ⟨_, _, fin ds q2 hds (by omega), ?_⟩
    simp [regA, get_purgeE, e0, e1, e4, e6, e9, e87]
  | true =>
  by_cases hl : 0 < ds.length
  · simp [get_purgeE, e0, e1, e4, e6, e9, e87, hl]
    refine call_onK (s_spec_l20Rd_pick bs q2 ds.length hb hB (by omega)) [0] (by simp) (by simp) (by simp) ?_
    rintro _ _ ⟨x, x0, x1, rfl, rfl⟩
    simp [get_purgeE, e0, e1, e4, e6, e9, e87, hl]
    refine call_onK (s_spec_l20Rd_pick bs (q2 + 1) 3 hb hB (by omega)) [0] (by simp) (by simp) (by simp) ?_
    rintro _ _ ⟨y, y0, y1, rfl, rfl⟩
    have y3 : y < 3 := by omega
    obtain ⟨v, hv⟩ := ndget y0 y3
    have x3 : x < ds.length := by omega
    simp [get_purgeE, e0, e1, e4, e6, e9, e87, hl, y0, y3, hv, x0, x3, ints_set]
    refine ⟨_, _, fin (ds.set x.toNat v) (q2 + 1 + 1) (by simpa using hds) (by omega), ?_⟩
    have htk : (ints (ds.set x.toNat v)).take ds.length = ints (ds.set x.toNat v) := List.take_of_length_le (by simp)
    simp [regA, get_purgeE, e0, e1, e4, e6, e9, e87, htk]
  · have hl' : ds.length = 0 := by omega
    simp [get_purgeE, e0, e1, e4, e6, e9, e87, hl, hl']
    refine ⟨_, _, fin [] q2 (by simp) (by omega), ?_⟩
    simp [regA, get_purgeE, e0, e1, e4, e6, e9, e87]

theorem bools_getI {cs : List Bool} {i : Nat} (h : i < (bools cs).length) : (bools cs)[i]'h = .v (.bool (atb cs i)) := by
  have h2 : i < cs.length := by simpa using h
  simp [bools, atb, h2]

theorem puz_gen (bs : List Int) (p q : Nat) (n W T : Int) (cs : List Bool) (ds : List Int) (hb : bs.length ≤ 2000) (hB : Byt bs) (hp : p < 2 ^ 35) (hn0 : 0 ≤ n) (hn : n < 2 ^ 20) (hcs : cs.length ≤ 37) (hq : q ≤ p + 500) (wide : Int) (hw : 0 ≤ wide ∧ wide ≤ 100) (Qc : AExit → ES → Heap → Prop)
    (hend : ∀ (q2 : Nat) (ds : List Int) (b : Bool), q2 ≤ p + 540 → ds.length ≤ 37 → Qc (.exit 0) [(47, .v (.bool b)), (46, .v (.int .i64 cs.length)), (45, .ls 1 4 0 cs.length), (44, .lp 0 2 0 2), (43, .v (.int .i64 cs.length)), (0, .lp 0 0 0 0), (1, .v (.int .i64 n)), (4, .lp 0 1 0 0), (6, .lp 0 2 0 0), (9, .ls 1 3 0 ds.length), (10, .v (.int .i64 wide)), (11, .v (.int .i64 cs.length)), (87, .lp 0 0 0 0)] (puzH bs q2 W T cs ds)) :
    loopNode [(9, 1)] [0, 1, 4, 6, 9, 10, 11, 87] (awp Try.prog md5 c_spec_l20Puzzle_L0) Qc
      [(0, .lp 0 0 0 0), (1, .v (.int .i64 n)), (4, .lp 0 1 0 0), (6, .lp 0 2 0 0), (9, .ls 1 3 0 0), (10, .v (.int .i64 wide)), (11, .v (.int .i64 0)), (87, .lp 0 0 0 0)] (puzH bs q W T cs []) := by
  refine loop_by (fun m E H => ∃ (i q2 : Nat) (ds : List Int), m = cs.length - i ∧ i ≤ cs.length ∧ ds.length = i ∧ q2 ≤ q + i ∧ H = puzH bs q2 W T cs ds ∧
    E = [(0, .lp 0 0 0 0), (1, .v (.int .i64 n)), (4, .lp 0 1 0 0), (6, .lp 0 2 0 0), (9, .ls 1 3 0 ds.length), (10, .v (.int .i64 wide)), (11, .v (.int .i64 i)), (87, .lp 0 0 0 0)]) cs.length ⟨0, q, [], rfl, by omega, rfl, by omega, by simp, by simp⟩ ?_
  rintro J hJ m E H ⟨i, q2, ds, rfl, hi, hdl, hq2, rfl, rfl⟩
  by_cases h : i < cs.length
  case neg =>
    have : i = cs.length := by omega
    subst this
    simp [c_spec_l20Puzzle_L0]
    exact hend q2 ds false (by omega) (by omega)
  have next : ∀ (q3 : Nat) (v : Int), q3 ≤ q2 + 1 → again J (cs.length - i) [(0, .lp 0 0 0 0), (1, .v (.int .i64 n)), (4, .lp 0 1 0 0), (6, .lp 0 2 0 0), (9, .ls 1 3 0 (ds.length + 1)), (10, .v (.int .i64 wide)), (11, .v (.int .i64 (i + 1))), (87, .lp 0 0 0 0)]
      [some (.box [.sl 0 1 (u8s bs), .v (.int .i64 q3)]), some (.box [.v (.int .i64 0), .v (.int .i64 0), .os 1 []]), some (.box [.v (.int .i64 W), .v (.int .i64 T), .ls 1 4 0 cs.length]), some (.arr 1 (ints ds ++ [.v (.int .i64 v)])), some (.arr 1 (bools cs))] := by
    intro q3 v h3
    exact ⟨_, by omega, hJ _ _ _ ⟨i + 1, q3, ds ++ [v], rfl, h, by simp [hdl], by omega, by simp [ints_append, ints_one], by simp⟩⟩
  cases hc : atb cs i with
  | true =>
    simp [c_spec_l20Puzzle_L0, h, hc, bools_getI]
    refine call_onK (s_spec_l20Rd_pick bs q2 (if 7 < wide then 7 else wide) hb hB (by omega)) [0] (by simp) (by simp) (by simp) ?_
    rintro _ _ ⟨x, x0, x1, rfl, rfl⟩
    have n2 := next (q2 + 1) x (by omega)
    simp only [Int.natCast_add, Int.natCast_one] at n2
    simp
    (repeat' first | omega | assumption | apply And.intro)
  | false =>
    have n2 := next q2 (-1) (by omega)
    simp [c_spec_l20Puzzle_L0, h, hc, bools_getI]
    (repeat' first | omega | assumption | apply And.intro)

theorem puz_T1 (bs : List Int) (p q : Nat) (n W T : Int) (cs : List Bool) (ds : List Int) (ok : Bool) (hb : bs.length ≤ 2000) (hB : Byt bs) (hp : p < 2 ^ 35) (hn0 : 0 ≤ n) (hn : n < 2 ^ 20) (hcs : cs.length ≤ 37) (hds : ds.length ≤ 37) (hq : q ≤ p + 450) :
    awp Try.prog md5 c_spec_l20Puzzle_T1 (FinS [RV.c 4 true 3, RV.t 5] 87 2 [true, false] (puzSet bs p 600))
      [(0, .lp 0 0 0 0), (1, .v (.int .i64 n)), (4, .lp 0 1 0 0), (6, .lp 0 2 0 0), (8, .v (.bool ok)), (9, .ls 1 3 0 ds.length), (87, .lp 0 0 0 0)] (puzH bs q W T cs ds) := by
  rw [puz_parts]
  cases ok with
  | false =>
    simp [c_puzA]
    refine call_onK (s_spec_l20Rd_pick bs q 6 hb hB (by omega)) [0] (by simp) (by simp) (by simp) ?_
    rintro _ _ ⟨x, x0, x1, rfl, rfl⟩
    simp
    refine ⟨by omega, ?_⟩
    refine puz_gen bs p (q + 1) n W T cs [] hb hB hp hn0 hn hcs (by omega) (2 + x) (by omega) _ ?_
    intro q2 ds2 b h1 h2
    simp
    exact puz_tail bs p q2 n W T cs ds2 hb hB hp hn0 hn hcs h2 (by omega) _ rfl rfl rfl rfl rfl rfl
  | true =>
    simp [c_puzA]
    refine call_onK (s_spec_l20Rd_pick bs q 3 hb hB (by omega)) [0] (by simp) (by simp) (by simp) ?_
    rintro _ _ ⟨y, y0, y1, rfl, rfl⟩
    by_cases c0 : y = 0
    · simp [c0]
      refine call_onK (s_spec_l20Rd_pick bs (q + 1) 6 hb hB (by omega)) [0] (by simp) (by simp) (by simp) ?_
      rintro _ _ ⟨x, x0, x1, rfl, rfl⟩
      simp
      refine ⟨by omega, ?_⟩
      refine puz_gen bs p (q + 1 + 1) n W T cs [] hb hB hp hn0 hn hcs (by omega) (2 + x) (by omega) _ ?_
      intro q2 ds2 b h1 h2
      simp
      exact puz_tail bs p q2 n W T cs ds2 hb hB hp hn0 hn hcs h2 (by omega) _ rfl rfl rfl rfl rfl rfl
    · simp [c0]
      exact puz_tail bs p (q + 1) n W T cs ds hb hB hp hn0 hn hcs hds (by omega) _ rfl rfl rfl rfl rfl rfl

theorem puz_T2 (bs : List Int) (p q : Nat) (n W T : Int) (cs : List Bool) (ls : List Int) (ok : Bool) (hb : bs.length ≤ 2000) (hB : Byt bs) (hp : p < 2 ^ 35) (hn0 : 0 ≤ n) (hn : n < 2 ^ 20) (hcs : cs.length ≤ 37) (hls : ls.length ≤ 37) (hq : q ≤ p + 420) :
    awp Try.prog md5 c_spec_l20Puzzle_T2 (FinS [RV.c 4 true 3, RV.t 5] 87 2 [true, false] (puzSet bs p 600))
      [(0, .lp 0 0 0 0), (1, .v (.int .i64 n)), (4, .lp 0 1 0 0), (6, .lp 0 2 0 0), (7, .ls 1 3 0 ls.length), (8, .v (.bool ok)), (87, .lp 0 0 0 0)] (puzH bs q W T cs ls) := by
  simp [c_spec_l20Puzzle_T2]
  (repeat' first | omega | apply And.intro) <;>
  · refine call_onK (s_spec_l20Rd_pick bs q 28 hb hB (by omega)) [0] (by simp) (by simp) (by simp) ?_
    rintro _ _ ⟨x, x0, x1, rfl, rfl⟩
    simp
    refine call_on (s_spec_MakePuzzle W T cs ls x (by omega) (by omega)) ?_
    have hml := mkI_length W T cs ls x
    generalize mkI W T cs ls x = ds at *
    simp
    exact puz_T1 bs p (q + 1) n W T cs ds ok hb hB hp hn0 hn hcs (by omega) (by omega)

set_option maxHeartbeats 4000000 in
theorem s_spec_l20Puzzle (bs : List Int) (p : Nat) (n : Int) (hb : bs.length ≤ 2000) (hB : Byt bs) (hp : p < 2 ^ 35) (hn0 : 0 ≤ n) (hn : n < 2 ^ 20) :
    SoundSet Try.prog n_spec_l20Puzzle [rdA bs p, .v (.int .i64 n)] (puzSet bs p 600) := by
  refine fn_okS (md := md5) (ms := [true, false]) k_spec_l20Puzzle (by simp) ?_
  simp [c_spec_l20Puzzle]
  refine ⟨by omega, ?_⟩
  refine call_onK (s_spec_l20Small bs p (2 * n) hb hB (by omega) (by omega)) [0] (by simp) (by simp) (by simp) ?_
  rintro _ _ ⟨W, T, cs, q, rfl, hcs, w0, w6, t0, t24, hq, rfl⟩
  have hmax : ∀ x : Int, 0 ≤ x → 0 ≤ x ∧ 1 ≤ (if tmI W T cs < 1 then 1 else tmI W T cs) := by
    intro x hx; split <;> omega
  simp [regA]
  (repeat' first | omega | apply And.intro) <;>
  · refine call_onK (s_spec_l20Rd_pick bs q 256 hb hB (by omega)) [0] (by simp) (by simp) (by simp) ?_
    rintro _ _ ⟨x, x0, x1, rfl, rfl⟩
    simp
    (repeat' first | omega | apply And.intro) <;>
    · refine call_on (s_spec_TilingsMany W T cs (by omega)) ?_
      generalize tmI W T cs = M at *
      simp [hmax x x0]
      refine call_onK (s_spec_TilingOf W T cs (x % if M < 1 then 1 else M) (by omega)) [] (by simp) (by simp) (by simp) ?_
      rintro _ _ ⟨ls, ok, hls, rfl, rfl⟩
      simp
      exact puz_T2 bs p (q + 1) n W T cs ls ok hb hB hp hn0 hn hcs (by omega) (by omega)

end Go.Proofs.Dev

namespace Go.Proofs.Dev
-- 1 parameters, results [.t 2], 24 slots, modes [false]
@[simp] abbrev n_spec_l10Named : Nat := 40

def c_spec_l10Named : ACode := .seq (.reg [.o 1 .box [.t 0], .o 2 .mv [.kb false]]) <| .seq (.seq (.reg [.f 3 0 1, .l 4 3]) <|
 .block 0 ( .seq (.reg [.o 6 (.bin .eql 0) [.t 4, .k 0], .m 5 6]) <| .cond (.t 5) ( .seq (.reg [.o 2 .mv [.kb true]]) <|
 .ret) ( .seq (.seq (.reg [.o 8 (.bin .eql 0) [.t 4, .k 1], .m 7 8]) <| .cond (.t 7) ( .skip) ( .reg [.o 9 (.bin .eql 0) [.t 4, .k 2], .m 7 9])) <|
 .cond (.t 7) ( .seq (.reg [.f 10 2 1, .l 11 10, .o 12 (.bin .eql 0) [.t 11, .k 0], .m 2 12]) <| .ret) ( .seq (.seq (.reg [.o 14 (.bin .eql 0) [.t 4, .k 3],
 .m 13 14]) <| .cond (.t 13) ( .skip) ( .reg [.o 15 (.bin .eql 0) [.t 4, .k 4], .m 13 15])) <| .cond (.t 13) ( .seq (.reg [.f 16 2 1, .l 17 16,
 .o 18 (.bin .eql 0) [.t 17, .k 0], .m 19 18, .fg 20 1 1 19 true, .lg 21 20 19 true, .g 22 (.bin .eql 0) [.t 21, .k 0] 19 true, .o 23 .pick [.t 19, .t 22,
 .kb false], .m 2 23]) <| .ret) ( .skip))))) <| .seq (.reg [.o 2 .mv [.kb false]]) <| .ret

-- 3 parameters, results [.t 6], 31 slots, modes [false, false, false]
@[simp] abbrev n_spec_l1At : Nat := 81

def c_spec_l1At : ACode := .seq (.reg [.o 3 .box [.t 0], .o 6 .mv [.kb false]]) <| .seq (.reg [.m 7 1, .f 8 0 3, .l 9 8, .o 10 (.bin .sub 0) [.t 9, .k 1],
 .o 11 (.call 55 []) [.t 7, .k 0, .t 10], .m 12 11, .mg 13 2 12 true, .fg 14 1 3 12 true, .lg 15 14 12 true, .g 16 (.bin .sub 0) [.t 15, .k 1] 12 true,
 .g 17 (.call 55 []) [.t 13, .k 0, .t 16] 12 true, .o 18 .pick [.t 12, .t 17, .kb false], .m 19 18, .fg 20 2 3 19 true, .lg 21 20 19 true, .mg 22 2 19 true,
 .fg 23 0 3 19 true, .lg 24 23 19 true, .g 25 (.bin .mul 0) [.t 22, .t 24] 19 true, .mg 26 1 19 true, .g 27 (.bin .add 0) [.t 25, .t 26] 19 true,
 .g 28 (.iadr 1) [.t 21, .t 27] 19 true, .lg 29 28 19 true, .o 30 .pick [.t 19, .t 29, .kb false], .m 6 30]) <| .ret

-- 1 parameters, results [.t 2], 13 slots, modes [false]
@[simp] abbrev n_spec_CornerMany : Nat := 71

def c_spec_CornerMany : ACode := .seq (.reg [.o 1 .box [.t 0], .o 2 .mv [.k 0]]) <| .seq (.seq (.reg [.la 3 3 1, .o 4 (.call 54 []) [.t 3],
 .o 5 (.un .not) [.t 4]]) <| .cond (.t 5) ( .seq (.reg [.o 2 .mv [.k (-1)]]) <| .ret) ( .skip)) <| .seq (.reg [.f 6 0 1, .l 7 6, .o 8 (.bin .add 0) [.t 7, .k 1],
 .f 9 1 1, .l 10 9, .o 11 (.bin .add 0) [.t 10, .k 1], .o 12 (.bin .mul 0) [.t 8, .t 11], .m 2 12]) <| .ret

-- 2 parameters, results [.t 4, .t 5, .t 6, .t 7, .t 8], 72 slots, modes [false, false]
@[simp] abbrev n_spec_l5Square : Nat := 68

def c_spec_l5Square : ACode := .seq (.reg [.o 2 .box [.t 0], .o 4 .mv [.k 0], .o 5 .mv [.k 0], .o 6 .mv [.k 0], .o 7 .mv [.k 0], .o 8 .mv [.kb false]]) <|
 .seq (.reg [.m 12 1, .f 13 0 2, .l 14 13, .o 15 (.bin .add 0) [.t 14, .k 1], .o 16 (.bin .rem 0) [.t 12, .t 15], .m 9 16]) <| .seq (.reg [.m 17 1, .f 18 0 2,
 .l 19 18, .o 20 (.bin .add 0) [.t 19, .k 1], .o 21 (.bin .quo 0) [.t 17, .t 20], .m 10 21]) <| .seq (.seq (.reg [.la 22 3 2, .m 23 9,
 .o 24 (.bin .sub 0) [.t 23, .k 1], .m 25 10, .o 26 (.bin .sub 0) [.t 25, .k 1], .o 27 (.call 81 []) [.t 22, .t 24, .t 26], .o 28 (.un .not) [.t 27], .m 29 28,
 .g 30 (.load true 3) [.t 2] 29 false, .mg 31 9 29 false, .mg 32 10 29 false, .g 33 (.bin .sub 0) [.t 32, .k 1] 29 false, .g 34 (.call 81 []) [.t 30, .t 31,
 .t 33] 29 false, .g 35 (.un .not) [.t 34] 29 false, .o 36 .pick [.t 29, .kb true, .t 35], .m 37 36, .g 38 (.load true 3) [.t 2] 37 false, .mg 39 9 37 false,
 .g 40 (.bin .sub 0) [.t 39, .k 1] 37 false, .mg 41 10 37 false, .g 42 (.call 81 []) [.t 38, .t 40, .t 41] 37 false, .g 43 (.un .not) [.t 42] 37 false,
 .o 44 .pick [.t 37, .kb true, .t 43], .m 45 44, .g 46 (.load true 3) [.t 2] 45 false, .mg 47 9 45 false, .mg 48 10 45 false, .g 49 (.call 81 []) [.t 46, .t 47,
 .t 48] 45 false, .g 50 (.un .not) [.t 49] 45 false, .o 51 .pick [.t 45, .kb true, .t 50]]) <| .cond (.t 51) ( .seq (.reg [.o 4 .mv [.k 0], .o 5 .mv [.k 0],
 .o 6 .mv [.k 0], .o 7 .mv [.k 0], .o 8 .mv [.kb false]]) <| .ret) ( .skip)) <| .seq (.reg [.m 52 10, .o 53 (.bin .sub 0) [.t 52, .k 1], .f 54 0 2, .l 55 54,
 .o 56 (.bin .mul 0) [.t 53, .t 55], .m 57 9, .o 58 (.bin .add 0) [.t 56, .t 57], .o 59 (.bin .sub 0) [.t 58, .k 1], .m 11 59]) <|
 .seq (.draw ( .take (.m 60 11) <| .take (.m 61 11) <| .take (.o 62 (.bin .add 0) [.t 61, .k 1]) <| .take (.m 63 11) <| .take (.f 64 0 2) <| .take (.m 67 11) <|
 .take (.f 68 0 2) <| .take (.m 4 60) <| .take (.m 5 62) <| .alt (.l 65 64) ( .take (.o 66 (.bin .add 0) [.t 63, .t 65]) <| .take (.m 6 66) <|
 .al (.l 69 68) ( .take (.o 70 (.bin .add 0) [.t 67, .t 69]) <| .take (.o 71 (.bin .add 0) [.t 70, .k 1]) <| .take (.m 7 71) <| .take (.o 8 .mv [.kb true]) <|
 .done)) <| .al (.l 69 68) ( .take (.o 70 (.bin .add 0) [.t 67, .t 69]) <| .take (.o 71 (.bin .add 0) [.t 70, .k 1]) <|
 .al (.l 65 64) ( .take (.o 66 (.bin .add 0) [.t 63, .t 65]) <| .take (.m 6 66) <| .take (.m 7 71) <| .take (.o 8 .mv [.kb true]) <| .done)))) <| .ret

-- 3 parameters, results [.t 6], 62 slots, modes [false, false, false]
@[simp] abbrev n_spec_FlipMay : Nat := 67

def c_spec_FlipMay : ACode := .seq (.reg [.o 3 .box [.t 0], .o 6 .mv [.kb false]]) <| .seq (.seq (.reg [.la 12 3 3, .m 13 1, .o 14 (.call 27 []) [.t 12, .t 13],
 .o 15 (.un .not) [.t 14], .m 16 15, .mg 17 2 16 false, .g 18 (.load true 3) [.t 3] 16 false, .g 19 (.call 71 []) [.t 18] 16 false, .g 20 (.bin .sub 0) [.t 19,
 .k 1] 16 false, .g 21 (.call 55 []) [.t 17, .k 0, .t 20] 16 false, .g 22 (.un .not) [.t 21] 16 false, .o 23 .pick [.t 16, .kb true, .t 22]]) <|
 .cond (.t 23) ( .seq (.reg [.o 6 .mv [.kb false]]) <| .ret) ( .skip)) <| .seq (.reg [.la 25 3 3, .m 26 2, .o 27 (.call 68 []) [.t 25, .t 26], .m 24 27,
 .e 28 0 24, .e 29 1 24, .e 30 2 24, .e 31 3 24, .e 32 4 24, .m 7 28, .m 8 29, .m 9 30, .m 10 31, .m 11 32]) <| .seq (.reg [.m 33 11, .m 34 33, .mg 35 1 34 true,
 .mg 36 7 34 true, .g 37 (.iadr 1) [.t 35, .t 36] 34 true, .lg 38 37 34 true, .g 39 (.bin .eql 0) [.t 38, .k 1] 34 true, .mg 40 39 34 true, .mg 41 1 40 true,
 .mg 42 9 40 true, .g 43 (.iadr 1) [.t 41, .t 42] 40 true, .lg 44 43 40 true, .g 45 (.bin .eql 0) [.t 44, .k 1] 40 true, .g 46 .pick [.t 40, .t 45,
 .kb false] 34 true, .mg 47 46 34 true, .mg 48 1 47 false, .mg 49 7 47 false, .g 50 (.iadr 1) [.t 48, .t 49] 47 false, .lg 51 50 47 false,
 .g 52 (.bin .eql 0) [.t 51, .k 2] 47 false, .mg 53 52 47 false, .mg 54 1 53 true, .mg 55 8 53 true, .g 56 (.iadr 1) [.t 54, .t 55] 53 true, .lg 57 56 53 true,
 .g 58 (.bin .eql 0) [.t 57, .k 2] 53 true, .g 59 .pick [.t 53, .t 58, .kb false] 47 false, .g 60 .pick [.t 47, .kb true, .t 59] 34 true, .o 61 .pick [.t 34,
 .t 60, .kb false], .m 6 61]) <| .ret

-- 3 parameters, results [.t 6, .t 7], 67 slots, modes [false, false, false]
@[simp] abbrev n_spec_FlipOne : Nat := 43

def c_spec_FlipOne : ACode := .seq (.reg [.o 3 .box [.t 0], .o 6 .mv [.c (.os 1 [])], .o 7 .mv [.kb false]]) <| .seq (.seq (.reg [.la 14 3 3, .m 15 1,
 .o 16 (.call 27 []) [.t 14, .t 15], .o 17 (.un .not) [.t 16]]) <| .cond (.t 17) ( .seq (.reg [.o 18 (.bsl 1) [], .m 6 18, .o 7 .mv [.kb false]]) <|
 .ret) ( .skip)) <| .seq (.reg [.o 19 (.bsl 1) [], .m 20 1, .o 21 (.app 1 8 true) [.t 19, .t 20], .m 8 21]) <| .seq (.seq (.reg [.la 22 3 3, .m 23 1, .m 24 2,
 .o 25 (.call 67 []) [.t 22, .t 23, .t 24], .o 26 (.un .not) [.t 25]]) <| .cond (.t 26) ( .seq (.reg [.m 27 8, .m 6 27, .o 7 .mv [.kb false]]) <|
 .ret) ( .skip)) <| .seq (.reg [.la 29 3 3, .m 30 2, .o 31 (.call 68 []) [.t 29, .t 30], .m 28 31, .e 32 0 28, .e 33 1 28, .e 34 2 28, .e 35 3 28, .e 36 4 28,
 .m 9 32, .m 10 33, .m 11 34, .m 12 35, .m 13 36]) <| .seq (.seq (.reg [.m 37 1, .m 38 9, .o 39 (.iadr 1) [.t 37, .t 38], .l 40 39, .o 41 (.bin .eql 0) [.t 40,
 .k 1]]) <| .cond (.t 41) ( .seq (.reg [.m 42 8, .m 43 9, .o 44 (.iadr 1) [.t 42, .t 43], .s (.store 1) [.t 44, .k 2]]) <| .seq (.reg [.m 45 8, .m 46 10,
 .o 47 (.iadr 1) [.t 45, .t 46], .s (.store 1) [.t 47, .k 2]]) <| .seq (.reg [.m 48 8, .m 49 11, .o 50 (.iadr 1) [.t 48, .t 49], .s (.store 1) [.t 50, .k 4]]) <|
 .reg [.m 51 8, .m 52 12, .o 53 (.iadr 1) [.t 51, .t 52], .s (.store 1) [.t 53, .k 4]]) ( .seq (.reg [.m 54 8, .m 55 9, .o 56 (.iadr 1) [.t 54, .t 55],
 .s (.store 1) [.t 56, .k 1]]) <| .seq (.reg [.m 57 8, .m 58 11, .o 59 (.iadr 1) [.t 57, .t 58], .s (.store 1) [.t 59, .k 1]]) <| .seq (.reg [.m 60 8, .m 61 10,
 .o 62 (.iadr 1) [.t 60, .t 61], .s (.store 1) [.t 62, .k 3]]) <| .reg [.m 63 8, .m 64 12, .o 65 (.iadr 1) [.t 63, .t 64], .s (.store 1) [.t 65, .k 3]])) <|
 .seq (.reg [.m 66 8, .m 6 66, .o 7 .mv [.kb true]]) <| .ret

-- 1 parameters, results [.c 2 true 6], 35 slots, modes [false]
@[simp] abbrev n_spec_l10Copy : Nat := 39
abbrev c_spec_l10Copy_L0_p0 : Plan := .al (.o 30 (.app 1 8 true) [.t 24, .t 29]) ( .al (.o 31 (.bsl 1) [.t 30]) ( .al (.o 32 (.app 1 24 false) [.t 23, .t 31]) ( .take (.f 33 5 3) <| .al (.s (.store 1) [.t 33, .t 32]) ( .done))))
abbrev c_spec_l10Copy_L0_p1 : Plan := .alt (.l 23 22) c_spec_l10Copy_L0_p0 <| .al (.o 30 (.app 1 8 true) [.t 24, .t 29]) ( .alt (.l 23 22) ( .al (.o 31 (.bsl 1) [.t 30]) ( .al (.o 32 (.app 1 24 false) [.t 23, .t 31]) ( .take (.f 33 5 3) <| .al (.s (.store 1) [.t 33, .t 32]) ( .done)))) <| .al (.o 31 (.bsl 1) [.t 30]) ( .al (.l 23 22) ( .al (.o 32 (.app 1 24 false) [.t 23, .t 31]) ( .take (.f 33 5 3) <| .al (.s (.store 1) [.t 33, .t 32]) ( .done)))))
abbrev c_spec_l10Copy_L0_p2 : Plan := .al (.l 26 25) ( .take (.o 28 (.iadr 1) [.t 26, .t 27]) <| .al (.l 29 28) c_spec_l10Copy_L0_p0)
def c_spec_l10Copy_L0 : ACode := .seq (.seq (.reg [.m 15 4, .f 16 5 1, .l 17 16, .n 18 17, .o 19 (.bin .lss 0) [.t 15, .t 18]]) <|
 .cond (.t 19) ( .skip) ( .exit 0)) <| .seq (.block 1 ( .draw ( .take (.f 22 5 3) <| .take (.f 25 5 1) <| .take (.m 27 4) <|
 .alt (.l 23 22) ( .alt (.o 24 (.bsl 1) []) c_spec_l10Copy_L0_p2 <| .al (.l 26 25) ( .take (.o 28 (.iadr 1) [.t 26, .t 27]) <|
 .alt (.o 24 (.bsl 1) []) ( .al (.l 29 28) c_spec_l10Copy_L0_p0) <| .al (.l 29 28) ( .al (.o 24 (.bsl 1) []) c_spec_l10Copy_L0_p0))) <| .alt (.o 24 (.bsl 1) []) ( .alt (.l 23 22) c_spec_l10Copy_L0_p2 <| .al (.l 26 25) ( .take (.o 28 (.iadr 1) [.t 26, .t 27]) <|
 .alt (.l 23 22) ( .al (.l 29 28) c_spec_l10Copy_L0_p0) <| .al (.l 29 28) c_spec_l10Copy_L0_p1)) <| .al (.l 26 25) ( .take (.o 28 (.iadr 1) [.t 26, .t 27]) <|
 .alt (.l 23 22) ( .alt (.o 24 (.bsl 1) []) ( .al (.l 29 28) c_spec_l10Copy_L0_p0) <|
 .al (.l 29 28) ( .al (.o 24 (.bsl 1) []) c_spec_l10Copy_L0_p0)) <|
 .alt (.o 24 (.bsl 1) []) ( .alt (.l 23 22) ( .al (.l 29 28) c_spec_l10Copy_L0_p0) <|
 .al (.l 29 28) c_spec_l10Copy_L0_p1) <| .al (.l 29 28) ( .alt (.l 23 22) ( .al (.o 24 (.bsl 1) []) c_spec_l10Copy_L0_p0) <|
 .al (.o 24 (.bsl 1) []) c_spec_l10Copy_L0_p1))))) <| .reg [.m 20 4, .o 21 (.bin .add 0) [.t 20, .k 1], .m 4 21]

def c_spec_l10Copy : ACode := .seq (.reg [.o 1 .box [.t 0], .o 2 (.alloc bz) []]) <| .seq (.reg [.f 5 0 1, .la 6 3 5, .f 7 3 1, .l 8 7,
 .o 9 (.call 17 []) [.t 6, .t 8], .o 3 (.alloc bz) [], .s (.store 6) [.t 3, .t 9]]) <| .seq (.reg [.o 10 (.bsl 1) [], .f 11 4 1, .l 12 11,
 .o 13 (.app 1 8 true) [.t 10, .t 12], .f 14 4 3, .s (.store 1) [.t 14, .t 13]]) <| .seq (.seq (.reg [.o 4 .mv [.k 0]]) <| .block 0 ( .loop [] [1, 2, 3,
 4] c_spec_l10Copy_L0)) <| .seq (.reg [.la 34 6 3, .s (.store 6) [.t 2, .t 34]]) <| .ret

-- 2 parameters, results [.c 4 true 6, .t 5], 139 slots, modes [false, false]
@[simp] abbrev n_spec_BookDo : Nat := 19

def c_spec_BookDo_T : ACode := .seq (.seq (.reg [.m 109 8, .o 110 (.un .not) [.t 109], .m 111 110, .fg 112 0 2 111 false,
 .g 113 (.load true 3) [.t 112] 111 false, .fg 114 3 2 111 false, .lg 115 114 111 false, .mg 116 7 111 false, .g 117 (.call 13 []) [.t 113, .t 115,
 .t 116] 111 false, .g 118 (.un .not) [.t 117] 111 false, .o 119 .pick [.t 111, .kb true, .t 118]]) <| .cond (.t 119) ( .seq (.reg [.la 120 6 6,
 .s (.store 6) [.t 4, .t 120], .o 5 .mv [.kb false]]) <| .ret) ( .skip)) <| .seq (.reg [.f 121 5 6, .l 122 121, .f 123 4 6, .l 124 123, .o 125 (.bsl 1) [.t 124],
 .o 126 (.app 1 24 false) [.t 122, .t 125], .f 127 5 6, .s (.store 1) [.t 127, .t 126]]) <| .seq (.seq (.reg [.f 128 5 6, .l 129 128, .n 130 129,
 .o 131 (.bin .gtr 0) [.t 130, .k 20]]) <| .cond (.t 131) ( .reg [.f 132 5 6, .l 133 132, .o 134 (.slice 1 false true false false) [.t 133, .k 1], .f 135 5 6,
 .s (.store 1) [.t 135, .t 134]]) ( .skip)) <| .seq (.reg [.m 136 7, .f 137 4 6, .s (.store 1) [.t 137, .t 136]]) <| .seq (.reg [.la 138 6 6,
 .s (.store 6) [.t 4, .t 138], .o 5 .mv [.kb true]]) <| .ret

abbrev c_spec_BookDo_D_p0 : Plan := .al (.o 84 (.call 45 []) [.t 81, .t 83]) ( .take (.o 85 (.bin .gtr 0) [.t 79, .t 84]) <| .take (.m 8 85) <| .done)
abbrev c_spec_BookDo_D_p1 : Plan := .al (.o 79 (.call 45 []) [.t 77, .t 78]) c_spec_BookDo_D_p0
abbrev c_spec_BookDo_D_p2 : Plan := .alt (.o 79 (.call 45 []) [.t 77, .t 78]) ( .al (.la 81 3 80) c_spec_BookDo_D_p0) <| .al (.la 81 3 80) c_spec_BookDo_D_p1
abbrev c_spec_BookDo_D_p3 : Plan := .alt (.o 79 (.call 45 []) [.t 77, .t 78]) ( .al (.l 83 82) c_spec_BookDo_D_p0) <| .al (.l 83 82) c_spec_BookDo_D_p1
def c_spec_BookDo_D : ACode := .draw ( .take (.f 76 0 2) <| .take (.m 78 7) <| .take (.f 80 0 2) <| .take (.f 82 4 2) <|
 .alt (.la 77 3 76) ( .alt (.o 79 (.call 45 []) [.t 77, .t 78]) ( .alt (.la 81 3 80) ( .al (.l 83 82) c_spec_BookDo_D_p0) <| .al (.l 83 82) ( .al (.la 81 3 80) c_spec_BookDo_D_p0)) <| .alt (.la 81 3 80) c_spec_BookDo_D_p3 <| .al (.l 83 82) c_spec_BookDo_D_p2) <|
 .alt (.la 81 3 80) ( .alt (.la 77 3 76) c_spec_BookDo_D_p3 <|
 .al (.l 83 82) ( .al (.la 77 3 76) c_spec_BookDo_D_p1)) <| .al (.l 83 82) ( .alt (.la 77 3 76) c_spec_BookDo_D_p2 <| .al (.la 81 3 80) ( .al (.la 77 3 76) c_spec_BookDo_D_p1)))

def c_spec_BookDo : ACode := .seq (.reg [.o 2 .box [.t 0], .o 3 .box [.t 1], .o 4 (.alloc bz) [], .o 5 .mv [.kb false]]) <| .seq (.seq (.reg [.la 9 6 2,
 .o 10 (.call 6 []) [.t 9], .o 11 (.un .not) [.t 10]]) <| .cond (.t 11) ( .seq (.reg [.o 12 (.build bz []) [], .s (.store 6) [.t 4, .t 12],
 .o 5 .mv [.kb false]]) <| .ret) ( .skip)) <| .seq (.reg [.la 13 6 2, .o 14 (.call 39 []) [.t 13], .o 6 (.alloc bz) [], .s (.store 6) [.t 6, .t 14]]) <|
 .seq (.reg [.o 15 (.bsl 1) [], .m 7 15]) <| .seq (.reg [.o 8 .mv [.kb false]]) <| .seq (.block 0 ( .seq (.reg [.la 17 3 3, .o 18 (.call 40 []) [.t 17],
 .o 19 (.un .not) [.t 18], .m 16 19]) <| .cond (.t 16) ( .seq (.reg [.la 20 6 6, .s (.store 6) [.t 4, .t 20], .o 5 .mv [.kb false]]) <|
 .ret) ( .seq (.reg [.f 22 0 3, .l 23 22, .o 24 (.bin .eql 0) [.t 23, .k 0], .m 21 24]) <| .cond (.t 21) ( .reg [.f 26 0 2, .la 27 3 26, .f 28 4 2, .l 29 28,
 .f 30 1 3, .l 31 30, .f 32 2 3, .l 33 32, .o 34 (.call 41 []) [.t 27, .t 29, .t 31, .t 33], .m 25 34, .e 35 0 25, .e 36 1 25, .m 7 35,
 .m 8 36]) ( .seq (.reg [.f 38 0 3, .l 39 38, .o 40 (.bin .eql 0) [.t 39, .k 1], .m 37 40]) <| .cond (.t 37) ( .reg [.f 42 0 2, .la 43 3 42, .f 44 4 2, .l 45 44,
 .f 46 1 3, .l 47 46, .o 48 (.call 42 []) [.t 43, .t 45, .t 47], .m 41 48, .e 49 0 41, .e 50 1 41, .m 7 49, .m 8 50]) ( .seq (.reg [.f 52 0 3, .l 53 52,
 .o 54 (.bin .eql 0) [.t 53, .k 2], .m 51 54]) <| .cond (.t 51) ( .reg [.f 56 0 2, .la 57 3 56, .f 58 4 2, .l 59 58, .f 60 1 3, .l 61 60,
 .o 62 (.call 43 []) [.t 57, .t 59, .t 61], .m 55 62, .e 63 0 55, .e 64 1 55, .m 7 63, .m 8 64]) ( .seq (.reg [.f 66 0 3, .l 67 66, .o 68 (.bin .eql 0) [.t 67,
 .k 3], .m 65 68]) <| .cond (.t 65) ( .seq (.reg [.f 69 0 2, .la 70 3 69, .f 71 3 2, .l 72 71, .f 73 4 2, .l 74 73, .o 75 (.call 44 []) [.t 70, .t 72, .t 74],
 .m 7 75]) <| c_spec_BookDo_D) ( .seq (.reg [.f 87 5 6, .l 88 87, .n 89 88, .o 90 (.bin .gtr 0) [.t 89, .k 0], .m 86 90]) <| .cond (.t 86) ( .seq (.own [(.op,
 .f 91 5 6), (.op, .l 92 91), (.op, .f 93 5 6), (.op, .l 94 93), (.op, .n 95 94), (.op, .o 96 (.bin .sub 0) [.t 95, .k 1]), (.op, .o 97 (.iadr 1) [.t 92,
 .t 96]), (.take, .l 98 97), (.op, .f 99 4 6), (.op, .s (.store 1) [.t 99, .t 98])]) <| .seq (.reg [.f 100 5 6, .l 101 100, .f 102 5 6, .l 103 102, .n 104 103,
 .o 105 (.bin .sub 0) [.t 104, .k 1], .o 106 (.slice 1 false false true false) [.t 101, .t 105], .f 107 5 6, .s (.store 1) [.t 107, .t 106]]) <|
 .seq (.reg [.la 108 6 6, .s (.store 6) [.t 4, .t 108], .o 5 .mv [.kb true]]) <| .ret) ( .skip)))))))) <| c_spec_BookDo_T

end Go.Proofs.Dev

namespace Go.Proofs.Dev
set_option linter.unusedSimpArgs false
set_option maxRecDepth 100000

theorem bkPast_if (ls : List Int) (ps : List (List Int)) (h : ps.length ≤ 20) : bkPast ls ps = if 20 < ps.length + 1 then (ps ++ [ls]).drop 1 else ps ++ [ls] := by
  unfold bkPast
  split
  · rw [show ps.length + 1 - 20 = 1 by omega]
  · rw [show ps.length + 1 - 20 = 0 by omega]; rfl

abbrev bdF (post : AV → List AV → Prop) := FinS [RV.c 4 true 6, RV.t 5] 139 2 [false, false] post

abbrev bdH (W T : Int) (cs : List Bool) (ds ls : List Int) (ps : List (List Int)) (kind spot way : Int) (n : List Int) : Heap :=
  [some (.box [.v (.int .i64 W), .v (.int .i64 T), .sl 1 1 (bools cs), .sl 1 1 (ints ds), .sl 1 1 (ints ls), .sl 1 1 (sls 1 ps)]),
    some (.box [.v (.int .i64 kind), .v (.int .i64 spot), .v (.int .i64 way)]),
    some (.box [.v (.int .i64 0), .v (.int .i64 0), .os 1 [], .os 1 [], .os 1 [], .os 1 []]),
    some (.arr 1 (bools cs)), some (.arr 1 (ints ds)), some (.arr 1 (ints ls)), some (.arr 1 (oss ps)),
    some (.box [.v (.int .i64 W), .v (.int .i64 T), .ls 1 3 0 cs.length, .ls 1 4 0 ds.length, .ls 1 5 0 ls.length, .ls 1 6 0 ps.length]),
    some (.arr 1 []), some (.arr 1 (ints n))]

theorem bd_T (W T : Int) (cs : List Bool) (ds ls : List Int) (ps : List (List Int)) (kind spot way : Int) (n : List Int) (b : Bool)
    (hc : cs.length ≤ 40) (hd : ds.length ≤ 40) (hl : ls.length ≤ 40) (hps : ps.length ≤ 20) (hn : n.length ≤ 40) (post : AV → List AV → Prop)
    (p0 : (b && fairB W T cs ds n) = false → post (.tup [bkO W T cs ds ls ps, .v (.bool false)]) [.bot, .bot])
    (p1 : (b && fairB W T cs ds n) = true → post (.tup [bkO W T cs ds n (bkPast ls ps), .v (.bool true)]) [.bot, .bot]) (E : ES)
    (e2 : get E 2 = .lp 0 0 0 0) (e4 : get E 4 = .lp 0 2 0 0) (e6 : get E 6 = .lp 0 7 0 0) (e7 : get E 7 = .ls 1 9 0 n.length) (e8 : get E 8 = .v (.bool b)) :
    awp Try.prog md5 c_spec_BookDo_T (bdF post) E (bdH W T cs ds ls ps kind spot way n) := by
  have fair := s_spec_FairOk W T cs ds n (by omega) (by omega) (by omega)
  have htn : (ints n).take n.length = ints n := take_ints_all n
  cases b with
  | false =>
    simp [c_spec_BookDo_T, e2, e4, e6, e7, e8]
    exact ⟨_, _, p0 rfl, by simp [e4]⟩
  | true =>
    simp [c_spec_BookDo_T, e2, e4, e6, e7, e8]
    refine call_on fair ?_
    cases hf : fairB W T cs ds n with
    | false =>
      simp [e2, e4, e6, e7, e8]
      exact ⟨_, _, p0 (by simp [hf]), by simp [e4]⟩
    | true =>
      have p1 := p1 (by simp [hf])
      have key : oss ps ++ [.os 1 (ints ls)] = oss (ps ++ [ls]) := by rw [oss_append, oss_one]
      by_cases h20 : 20 < ps.length + 1
      · have h20' : (20 : Int) < ps.length + 1 := by omega
        have e : bkPast ls ps = (ps ++ [ls]).drop 1 := by rw [bkPast_if _ _ hps, if_pos h20]
        rw [e] at p1
        have hw : ((oss (ps ++ [ls])).drop 1).take ps.length = oss ((ps ++ [ls]).drop 1) := by
          have e2 : (oss (ps ++ [ls])).drop 1 = oss ((ps ++ [ls]).drop 1) := by simp [oss]
          rw [e2]
          exact List.take_of_length_le (by simp [oss])
        simp [e2, e4, e6, e7, e8, key, h20']
        have h1p : 1 + ps.length ≤ ps.length + 1 := by omega
        rw [List.drop_one, List.drop_one] at hw
        exact ⟨by omega, _, _, p1, by simp [e4, hw, htn, h1p]⟩
      · have h20' : ¬ (20 : Int) < ps.length + 1 := by omega
        have e : bkPast ls ps = ps ++ [ls] := by rw [bkPast_if _ _ hps, if_neg h20]
        rw [e] at p1
        have hw : (oss (ps ++ [ls])).take (ps.length + 1) = oss (ps ++ [ls]) := List.take_of_length_le (by simp [oss])
        simp [e2, e4, e6, e7, e8, key, h20']
        exact ⟨by omega, _, _, p1, by simp [e4, hw, htn]⟩

theorem s_spec_BookDoS (k : cFn Try.prog n_spec_BookDo 139 [.c 4 true 6, .t 5] c_spec_BookDo) (W T : Int) (cs : List Bool) (ds ls : List Int) (ps : List (List Int)) (kind spot way : Int)
    (hc : cs.length ≤ 40) (hd : ds.length ≤ 40) (hl : ls.length ≤ 40) (hps : ps.length ≤ 20) (hp : ∀ p ∈ ps, p.length ≤ 40)
    (ok named : Bool) (n : List Int) (b : Bool) (m0 m1 : Int)
    (hv : SoundAt Try.prog 6 [bkA W T cs ds ls ps] (.v (.bool ok)) [.bot])
    (hcopy : ok = true → SoundAt Try.prog 39 [bkA W T cs ds ls ps] (bkO W T cs ds ls ps) [.bot])
    (hnamed : SoundAt Try.prog 40 [deedV kind spot way] (.v (.bool named)) [.bot])
    (h0 : ok = true → kind = 0 → SoundAt Try.prog 41 [.agg [.v (.int .i64 W), .v (.int .i64 T), .sl 1 1 (bools cs)], .sl 1 1 (ints ls), .v (.int .i64 spot), .v (.int .i64 way)] (.tup [.os 1 (ints n), .v (.bool b)]) [.bot, .bot, .bot, .bot])
    (h1 : ok = true → kind = 1 → SoundAt Try.prog n_spec_LiftOne [.agg [.v (.int .i64 W), .v (.int .i64 T), .sl 1 1 (bools cs)], .sl 1 1 (ints ls), .v (.int .i64 spot)] (.tup [.os 1 (ints n), .v (.bool b)]) [.bot, .bot, .bot])
    (h2 : ok = true → kind = 2 → SoundAt Try.prog 43 [.agg [.v (.int .i64 W), .v (.int .i64 T), .sl 1 1 (bools cs)], .sl 1 1 (ints ls), .v (.int .i64 spot)] (.tup [.os 1 (ints n), .v (.bool b)]) [.bot, .bot, .bot])
    (h3 : ok = true → kind = 3 → SoundAt Try.prog 44 [.agg [.v (.int .i64 W), .v (.int .i64 T), .sl 1 1 (bools cs)], .sl 1 1 (ints ds), .sl 1 1 (ints ls)] (.os 1 (ints n)) [.bot, .bot, .bot])
    (h4 : SoundAt Try.prog 45 [.agg [.v (.int .i64 W), .v (.int .i64 T), .sl 1 1 (bools cs)], .sl 1 1 (ints n)] (.v (.int .i64 m0)) [.bot, .bot])
    (h5 : SoundAt Try.prog 45 [.agg [.v (.int .i64 W), .v (.int .i64 T), .sl 1 1 (bools cs)], .sl 1 1 (ints ls)] (.v (.int .i64 m1)) [.bot, .bot])
    (hb3 : ok = true → kind = 3 → b = decide (m1 < m0)) (hn : n.length ≤ 40) (post : AV → List AV → Prop)
    (pz : ok = false → post (.tup [bkO 0 0 [] [] [] [], .v (.bool false)]) [.bot, .bot])
    (pn : ok = true → named = false → post (.tup [bkO W T cs ds ls ps, .v (.bool false)]) [.bot, .bot])
    (pe : ok = true → named = true → (kind ≠ 0 ∧ kind ≠ 1 ∧ kind ≠ 2 ∧ kind ≠ 3) → ps = [] → post (.tup [bkO W T cs ds ls ps, .v (.bool false)]) [.bot, .bot])
    (pb : ok = true → named = true → (kind ≠ 0 ∧ kind ≠ 1 ∧ kind ≠ 2 ∧ kind ≠ 3) → ∀ q qs, ps = qs ++ [q] → post (.tup [bkO W T cs ds q qs, .v (.bool true)]) [.bot, .bot])
    (p0 : ok = true → named = true → (kind = 0 ∨ kind = 1 ∨ kind = 2 ∨ kind = 3) → (b && fairB W T cs ds n) = false → post (.tup [bkO W T cs ds ls ps, .v (.bool false)]) [.bot, .bot])
    (p1 : ok = true → named = true → (kind = 0 ∨ kind = 1 ∨ kind = 2 ∨ kind = 3) → (b && fairB W T cs ds n) = true → post (.tup [bkO W T cs ds n (bkPast ls ps), .v (.bool true)]) [.bot, .bot]) :
    SoundSet Try.prog n_spec_BookDo [bkA W T cs ds ls ps, deedV kind spot way] post := by
  refine fn_okS (md := md5) (ms := [false, false]) k (by simp) ?_
  simp [c_spec_BookDo]
  refine call_on hv ?_
  cases ok with
  | false =>
    simp
    exact ⟨_, _, pz rfl, by simp⟩
  | true =>
  have hcopy := hcopy rfl
  simp
  refine call_on hcopy ?_
  simp
  refine call_on hnamed ?_
  cases named with
  | false =>
    simp
    exact ⟨_, _, pn rfl rfl, by simp⟩
  | true =>
  have fall : (kind = 0 ∨ kind = 1 ∨ kind = 2 ∨ kind = 3) → ∀ E, get E 2 = .lp 0 0 0 0 → get E 4 = .lp 0 2 0 0 → get E 6 = .lp 0 7 0 0 → get E 7 = .ls 1 9 0 n.length → get E 8 = .v (.bool b) →
      awp Try.prog md5 c_spec_BookDo_T (bdF post) E (bdH W T cs ds ls ps kind spot way n) := by
    intro hm E e2 e4 e6 e7 e8
    exact bd_T W T cs ds ls ps kind spot way n b hc hd hl hps hn post (p0 rfl rfl hm) (p1 rfl rfl hm) E e2 e4 e6 e7 e8
  simp
  refine ⟨fun hk => ?_, fun hk0 => ⟨fun hk => ?_, fun hk1 => ⟨fun hk => ?_, fun hk2 => ⟨fun hk => ?_, fun hk3 => ?_⟩⟩⟩⟩
  · refine call_on (h0 rfl hk) ?_
    simp
    exact fall (.inl hk) _ rfl rfl rfl rfl rfl
  · refine call_on (h1 rfl hk) ?_
    simp
    exact fall (.inr (.inl hk)) _ rfl rfl rfl rfl rfl
  · refine call_on (h2 rfl hk) ?_
    simp
    exact fall (.inr (.inr (.inl hk))) _ rfl rfl rfl rfl rfl
  · refine call_on (h3 rfl hk) ?_
    simp [c_spec_BookDo_D]
    (repeat' first | omega | apply And.intro) <;>
    · refine call_on h4 ?_
      simp
      (repeat' first | omega | apply And.intro) <;>
      · refine call_on h5 ?_
        simp
        exact fall (.inr (.inr (.inr hk))) _ rfl rfl rfl rfl (by rw [hb3 rfl hk]; rfl)
  · rcases List.eq_nil_or_concat ps with rfl | ⟨qs, q, hqq⟩
    · refine ⟨fun h => by simp at h, fun _ => ?_⟩
      simp [c_spec_BookDo_T]
      exact ⟨_, _, pe rfl rfl ⟨hk0, hk1, hk2, hk3⟩ rfl, by simp⟩
    · rw [List.concat_eq_append] at hqq
      subst hqq
      refine ⟨fun _ => ?_, fun h => by simp at h⟩
      have el : (qs ++ [q]).length = qs.length + 1 := by simp
      have he : (oss (qs ++ [q]))[qs.length]? = some (.os 1 (ints q)) := by simp [oss]
      have hi1 : qs.length + 1 - 1 = qs.length := by omega
      rw [el]
      refine ⟨by omega, by omega, ?_⟩
      refine awpT_take rfl rfl (by rw [hi1]; exact he) ?_
      intro u
      have hw4 : ((oss (qs ++ [q])).set qs.length (.v u)).take qs.length = oss qs := by
        rw [List.take_set_of_le (Nat.le_refl _)]
        simp [oss]
      have htq : (ints q).take q.length = ints q := take_ints_all q
      simp [takeH]
      exact ⟨by omega, _, _, pb rfl rfl ⟨hk0, hk1, hk2, hk3⟩ q qs rfl, by simp [hw4, htq]⟩
end Go.Proofs.Dev

namespace Go.Proofs.Dev
set_option linter.unusedSimpArgs false
set_option maxRecDepth 100000

set_option maxHeartbeats 4000000 in
theorem s_spec_l10Copy (k : cFn Try.prog n_spec_l10Copy 35 [.c 2 true 6] c_spec_l10Copy) (W T : Int) (cs : List Bool) (ds ls n0 : List Int) (ps : List (List Int))
    (hc : cs.length ≤ 40) (hd : ds.length ≤ 40) (hl : ls.length ≤ 40) (hps : ps.length ≤ 100) (hp : ∀ p ∈ ps, p.length ≤ 40) (h0 : n0.length ≤ 40)
    (hnew : SoundAt Try.prog 17 [.agg [.v (.int .i64 W), .v (.int .i64 T), .sl 1 1 (bools cs)], .sl 1 1 (ints ds)] (bkO W T cs ds n0 []) [.bot, .bot]) :
    SoundAt Try.prog n_spec_l10Copy [bkA W T cs ds ls ps] (bkO W T cs ds ls ps) [.bot] := by
  refine fn_ok (md := md5) (ms := [false]) k (by simp) ?_
  simp [c_spec_l10Copy]
  refine call_on hnew ?_
  simp
  refine ⟨by omega, ?_⟩
  refine loop_by (fun m E H => ∃ i : Nat, m = ps.length - i ∧ i ≤ ps.length ∧ E = [(1, .lp 0 0 0 0), (2, .lp 0 1 0 0), (3, .lp 0 2 0 0), (4, .v (.int .i64 i))] ∧
    H = [some (.box [.v (.int .i64 W), .v (.int .i64 T), .sl 1 1 (bools cs), .sl 1 1 (ints ds), .sl 1 1 (ints ls), .sl 1 1 (sls 1 ps)]),
      some (.box [.v (.int .i64 0), .v (.int .i64 0), .os 1 [], .os 1 [], .os 1 [], .os 1 []]),
      some (.box [.v (.int .i64 W), .v (.int .i64 T), .ls 1 3 0 cs.length, .ls 1 4 0 ds.length, .ls 1 5 0 ls.length, .ls 1 6 0 i]),
      some (.arr 1 (bools cs)), some (.arr 1 (ints ds)), some (.arr 1 (ints ls)), some (.arr 1 (oss (ps.take i)))]) ps.length ⟨0, by simp⟩ ?_
  rintro J hJ m E H ⟨i, rfl, hi, rfl, rfl⟩
  by_cases h : i < ps.length
  · have et : pti ps i = ps[i] := pti_get h
    have hpl : (pti ps i).length ≤ 40 := by rw [et]; exact hp _ (List.getElem_mem h)
    have hti : (ps.take i).length = i := by simp; omega
    have key : oss (ps.take i) ++ [.os 1 (ints (pti ps i))] = oss (ps.take (i + 1)) := by
      rw [List.take_succ_eq_append_getElem h, oss_append, oss_one, et]
    have hm : min i ps.length = i := by omega
    simp [c_spec_l10Copy_L0, h, hm, key]
    exact ⟨by omega, by omega, by omega, _, by omega, hJ _ _ _ ⟨i + 1, rfl, h, by simp, by simp⟩⟩
  · have : i = ps.length := by omega
    subst this
    have htk : (oss ps).take ps.length = oss ps := List.take_of_length_le (by simp [oss])
    simp [c_spec_l10Copy_L0, htk]
end Go.Proofs.Dev

namespace Go.Proofs.Dev

end Go.Proofs.Dev

namespace Go.Proofs.Dev

theorem k_spec_l10Named : cFn Try.prog n_spec_l10Named 24 [.t 2] c_spec_l10Named := ⟨Try.f40, _, Try.func40, rfl, by kernel_rfl, by kernel_rfl, by kernel_rfl, by kernel_rfl⟩
theorem k_spec_l1At : cFn Try.prog n_spec_l1At 31 [.t 6] c_spec_l1At := ⟨Try.f81, _, Try.func81, rfl, by kernel_rfl, by kernel_rfl, by kernel_rfl, by kernel_rfl⟩
theorem k_spec_CornerMany : cFn Try.prog n_spec_CornerMany 13 [.t 2] c_spec_CornerMany := ⟨Try.f71, _, Try.func71, rfl, by kernel_rfl, by kernel_rfl, by kernel_rfl, by kernel_rfl⟩
theorem k_spec_l5Square : cFn Try.prog n_spec_l5Square 72 [.t 4, .t 5, .t 6, .t 7, .t 8] c_spec_l5Square := ⟨Try.f68, _, Try.func68, rfl, by kernel_rfl, by kernel_rfl, by kernel_rfl, by kernel_rfl⟩
theorem k_spec_FlipMay : cFn Try.prog n_spec_FlipMay 62 [.t 6] c_spec_FlipMay := ⟨Try.f67, _, Try.func67, rfl, by kernel_rfl, by kernel_rfl, by kernel_rfl, by kernel_rfl⟩
theorem k_spec_FlipOne : cFn Try.prog n_spec_FlipOne 67 [.t 6, .t 7] c_spec_FlipOne := ⟨Try.f43, _, Try.func43, rfl, by kernel_rfl, by kernel_rfl, by kernel_rfl, by kernel_rfl⟩
theorem k_spec_l10Copy : cFn Try.prog n_spec_l10Copy 35 [.c 2 true 6] c_spec_l10Copy := ⟨Try.f39, _, Try.func39, rfl, by kernel_rfl, by kernel_rfl, by kernel_rfl, by kernel_rfl⟩
theorem k_spec_BookDo : cFn Try.prog n_spec_BookDo 139 [.c 4 true 6, .t 5] c_spec_BookDo := ⟨Try.f19, _, Try.func19, rfl, by kernel_rfl, by kernel_rfl, by kernel_rfl, by kernel_rfl⟩
end Go.Proofs.Dev

namespace Go.Proofs.Dev

-- 2 parameters, results [.t 4], 23 slots, modes [false, false]
@[simp] abbrev n_spec_FlipsOf : Nat := 70
def c_spec_FlipsOf_L0 : ACode := .seq (.seq (.reg [.m 8 6, .la 9 3 2, .o 10 (.call 71 []) [.t 9], .o 11 (.bin .lss 0) [.t 8, .t 10]]) <|
 .cond (.t 11) ( .skip) ( .exit 0)) <| .seq (.block 1 ( .seq (.reg [.la 14 3 2, .m 15 1, .m 16 6, .o 17 (.call 67 []) [.t 14, .t 15, .t 16]]) <|
 .cond (.t 17) ( .reg [.m 18 5, .m 19 6, .o 20 (.bsl 1) [.t 19], .o 21 (.app 1 8 true) [.t 18, .t 20], .m 5 21]) ( .skip))) <| .reg [.m 12 6,
 .o 13 (.bin .add 0) [.t 12, .k 1], .m 6 13]

def c_spec_FlipsOf : ACode := .seq (.reg [.o 2 .box [.t 0], .o 4 .mv [.c (.os 1 [])]]) <| .seq (.reg [.o 7 (.bsl 1) [], .m 5 7]) <|
 .seq (.seq (.reg [.o 6 .mv [.k 0]]) <| .block 0 ( .loop [(1, 1), (5, 1)] [1, 2, 5, 6] c_spec_FlipsOf_L0)) <| .seq (.reg [.m 22 5, .m 4 22]) <| .ret

theorem k_spec_FlipsOf : cFn Try.prog n_spec_FlipsOf 23 [.t 4] c_spec_FlipsOf := ⟨Try.f70, _, Try.func70, rfl, by kernel_rfl, by kernel_rfl, by kernel_rfl, by kernel_rfl⟩

end Go.Proofs.Dev

namespace Go.Proofs.Dev
set_option linter.unusedSimpArgs false

/-- The cell in the south-west of a corner; whether a corner lies between four cells of the field. -/
def swI (W c : Int) : Int := (c / (W + 1) - 1) * W + c % (W + 1) - 1
def midB (W T c : Int) : Bool := decide (0 ≤ c ∧ 1 ≤ c % (W + 1) ∧ c % (W + 1) ≤ W - 1 ∧ 1 ≤ c / (W + 1) ∧ c / (W + 1) ≤ T - 1)
def flatB (W : Int) (ls : List Int) (c : Int) : Bool := decide (ati ls (swI W c) = 1) && decide (ati ls (swI W c + W) = 1)
def upB (W : Int) (ls : List Int) (c : Int) : Bool := decide (ati ls (swI W c) = 2) && decide (ati ls (swI W c + 1) = 2)
def flipB (W T : Int) (ls : List Int) (c : Int) : Bool := midB W T c && (flatB W ls c || upB W ls c)
def set4 (ls : List Int) (a W : Int) (p q r s : Int) : List Int := (((ls.set a.toNat p).set (a + 1).toNat q).set (a + W).toNat r).set (a + W + 1).toNat s
def flipI (W T : Int) (ls : List Int) (c : Int) : List Int :=
  if flipB W T ls c = true then (if flatB W ls c = true then set4 ls (swI W c) W 2 2 4 4 else set4 ls (swI W c) W 1 3 1 3) else ls

theorem set4_length (ls : List Int) (a W p q r s : Int) : (set4 ls a W p q r s).length = ls.length := by simp [set4]
theorem flipI_length (W T : Int) (ls : List Int) (c : Int) : (flipI W T ls c).length = ls.length := by
  unfold flipI; split
  · split <;> exact set4_length ..
  · rfl

theorem mid_at {W T c : Int} (hW : 1 ≤ W) (h : midB W T c = true) :
    ∃ x y : Int, 0 ≤ x ∧ x + 1 < W ∧ 0 ≤ y ∧ y + 1 < T ∧ swI W c = y * W + x ∧ c % (W + 1) = x + 1 ∧ c / (W + 1) = y + 1 := by
  simp only [midB, decide_eq_true_eq] at h
  refine ⟨c % (W + 1) - 1, c / (W + 1) - 1, by omega, by omega, by omega, by omega, ?_, by omega, by omega⟩
  unfold swI; omega

theorem sw_at {W T c : Int} (hW : 1 ≤ W) (h : midB W T c = true) : 0 ≤ swI W c ∧ swI W c + W + 1 < W * T := by
  obtain ⟨x, y, x0, x1, y0, y1, e, _⟩ := mid_at hW h
  rw [e]
  have h1 : 0 ≤ y * W := Int.mul_nonneg y0 (by omega)
  have h2 : (y + 1 + 1) * W ≤ T * W := Int.mul_le_mul_of_nonneg_right (by omega) (by omega)
  have h3 : (y + 1 + 1) * W = y * W + W + W := by rw [Int.add_mul, Int.add_mul, Int.one_mul]
  rw [Int.mul_comm T W] at h2
  omega

theorem ati_setI {xs : List Int} {i k : Int} {v : Int} (h0 : 0 ≤ i) (h : i < xs.length) (hk : 0 ≤ k) : ati (xs.set i.toNat v) k = if k = i then v else ati xs k := by
  have := ati_set (xs := xs) (i := i.toNat) (k := k.toNat) (v := v) (by omega)
  rw [show ((k.toNat : Nat) : Int) = k by omega] at this
  rw [this]
  by_cases e : k = i
  · rw [if_pos e, if_pos (by omega)]
  · rw [if_neg e, if_neg (by omega)]

theorem ati_set4 {ls : List Int} {a W p q r s k : Int} (h0 : 0 ≤ a) (hW : 1 ≤ W) (h : a + W + 1 < ls.length) (hk : 0 ≤ k) :
    ati (set4 ls a W p q r s) k = if k = a + W + 1 then s else if k = a + W then r else if k = a + 1 then q else if k = a then p else ati ls k := by
  unfold set4
  rw [ati_setI (by omega) (by simp; omega) hk, ati_setI (by omega) (by simp; omega) hk, ati_setI (by omega) (by simp; omega) hk, ati_setI (by omega) (by omega) hk]

theorem ext_ati {xs ys : List Int} (hl : xs.length = ys.length) (h : ∀ k : Nat, k < xs.length → ati xs k = ati ys k) : xs = ys := by
  apply List.ext_getElem hl
  intro i h1 h2
  have := h i h1
  simpa [ati, h1, h2] using this

/-- Steps from the four cells around a corner. -/
theorem mid_steps {W T x y : Int} (hW : 1 ≤ W) (x0 : 0 ≤ x) (x1 : x + 1 < W) (y0 : 0 ≤ y) (y1 : y + 1 < T) :
    stepI W T (y * W + x) 1 = y * W + x + 1 ∧ stepI W T (y * W + x) 2 = y * W + x + W ∧ stepI W T (y * W + x + W) 1 = y * W + x + W + 1 ∧ stepI W T (y * W + x + 1) 2 = y * W + x + 1 + W := by
  have c1 := xy_of (W := W) (x := x) (y := y) x0 (by omega)
  have c2 := xy_of (W := W) (x := x + 1) (y := y) (by omega) (by omega)
  have c3 := xy_of (W := W) (x := x) (y := y + 1) x0 (by omega)
  have hm : (y + 1) * W = y * W + W := by rw [Int.add_mul, Int.one_mul]
  rw [show (y + 1) * W + x = y * W + x + W by omega] at c3
  rw [show y * W + (x + 1) = y * W + x + 1 by omega] at c2
  refine ⟨?_, ?_, ?_, ?_⟩
  · unfold stepI; rw [c1.1, if_pos ⟨rfl, by omega⟩]
  · unfold stepI; rw [c1.2, if_neg (by omega), if_pos ⟨rfl, by omega⟩]
  · unfold stepI; rw [c3.1, if_pos ⟨rfl, by omega⟩]
  · unfold stepI; rw [c2.2, if_neg (by omega), if_pos ⟨rfl, by omega⟩]

theorem lays_atI {W T : Int} {cs : List Bool} {ls : List Int} {k : Int} (hy : laysB W T cs ls = true) (h0 : 0 ≤ k) (hk : k < ls.length) (hv : ati ls k ≠ 0) :
    1 ≤ ati ls k ∧ ati ls k ≤ 4 ∧ atb cs k = true ∧ 0 ≤ stepI W T k (ati ls k) ∧ atb cs (stepI W T k (ati ls k)) = true ∧ ati ls (stepI W T k (ati ls k)) = backI (ati ls k) := by
  have e : ((k.toNat : Nat) : Int) = k := by omega
  have := lays_at (k := k.toNat) hy (by omega) (by rw [e]; exact hv)
  rw [e] at this
  exact this

theorem lift_atI {W T : Int} {cs : List Bool} {ls : List Int} {k t : Int} (hr : regB W T cs = true) (hy : laysB W T cs ls = true) (h0 : 0 ≤ k) (hk : k < ls.length) (hv : ati ls k ≠ 0) (ht : stepI W T k (ati ls k) = t) :
    laysB W T cs (liftI W T ls k) = true ∧ (liftI W T ls k).length = ls.length ∧ ∀ j : Int, 0 ≤ j → ati (liftI W T ls k) j = if j = k then 0 else if j = t then 0 else ati ls j := by
  have e : ((k.toNat : Nat) : Int) = k := by omega
  obtain ⟨t', h1, h2, h3, h4⟩ := lift_at (k := k.toNat) hr hy (by omega) (by rw [e]; exact hv)
  have h5 := lift_ok (k := k.toNat) hr hy (by omega) (by rw [e]; exact hv)
  rw [e] at h1 h4 h5
  refine ⟨h5, liftI_length .., fun j hj => ?_⟩
  have := h4 j.toNat
  rw [show ((j.toNat : Nat) : Int) = j by omega] at this
  rw [this]
  by_cases e1 : j = k
  · rw [if_pos (by omega), if_pos e1]
  · rw [if_neg (by omega), if_neg e1]
    by_cases e2 : j = t
    · rw [if_pos (by omega), if_pos e2]
    · rw [if_neg (by omega), if_neg e2]

theorem lay_atI {W T : Int} {cs : List Bool} {ls : List Int} {k way t : Int} (hr : regB W T cs = true) (hy : laysB W T cs ls = true) (hf : freeB W T cs ls k way = true) (ht : stepI W T k way = t) :
    laysB W T cs (layI W T ls k way) = true ∧ (layI W T ls k way).length = ls.length ∧ ∀ j : Int, 0 ≤ j → ati (layI W T ls k way) j = if j = t then backI way else if j = k then way else ati ls j := by
  have hl := lays_len hy
  obtain ⟨w1, w2, t1, t2, l1, _⟩ := regB_W hr
  have hf2 := hf
  simp only [freeB, decide_eq_true_eq] at hf2
  obtain ⟨f0, f1, f2, f3, f4, f5, f6⟩ := hf2
  have sb := step_back (W := W) (T := T) (k := k) (way := way) w1 f0 (by omega) f2
  refine ⟨lay_ok hr hy hf, layI_length .., fun j hj => ?_⟩
  subst ht
  unfold layI
  rw [ati_setI f2 (by simp; omega) hj, ati_setI f0 (by omega) hj]

theorem free_of {W T : Int} {cs : List Bool} {ls : List Int} {k way t : Int} (h0 : 0 ≤ k) (h1 : k < cs.length) (ht : stepI W T k way = t) (h2 : 0 ≤ t) (h3 : atb cs k = true) (h4 : atb cs t = true) (h5 : ati ls k = 0) (h6 : ati ls t = 0) : freeB W T cs ls k way = true := by
  subst ht
  simp [freeB, h0, h1, h2, h3, h4, h5, h6]

/-- Two dominoes side by side are turned. -/
theorem turn_ok {W T : Int} {cs : List Bool} {ls l4 : List Int} {a p q r w v : Int} (hr : regB W T cs = true) (hy : laysB W T cs ls = true)
    (a0 : 0 ≤ a ∧ a < ls.length) (p0 : 0 ≤ p ∧ p < ls.length) (q0 : 0 ≤ q ∧ q < ls.length) (r0 : 0 ≤ r ∧ r < ls.length) (d1 : a ≠ p) (d2 : a ≠ q) (d3 : a ≠ r) (d4 : p ≠ q) (d5 : p ≠ r) (d6 : q ≠ r)
    (s1 : stepI W T a w = p) (s2 : stepI W T q w = r) (s3 : stepI W T a v = q) (s4 : stepI W T p v = r) (hw : w ≠ 0) (h1 : ati ls a = w) (h2 : ati ls q = w) (hl4 : l4.length = ls.length)
    (h4 : ∀ j : Int, 0 ≤ j → ati l4 j = if j = r then backI v else if j = p then v else if j = q then backI v else if j = a then v else ati ls j) :
    (atb cs a = true ∧ atb cs p = true ∧ atb cs q = true ∧ atb cs r = true) ∧ laysB W T cs l4 = true := by
  have hl := lays_len hy
  obtain ⟨_, _, a3, a4, a5, a6⟩ := lays_atI hy a0.1 a0.2 (by rw [h1]; exact hw)
  obtain ⟨_, _, c3, c4, c5, c6⟩ := lays_atI hy q0.1 q0.2 (by rw [h2]; exact hw)
  rw [h1, s1] at a4 a5 a6
  rw [h2, s2] at c4 c5 c6
  refine ⟨⟨a3, a5, c3, c5⟩, ?_⟩
  obtain ⟨g1, g2, g3⟩ := lift_atI (k := a) (t := p) hr hy a0.1 a0.2 (by rw [h1]; exact hw) (by rw [h1, s1])
  generalize liftI W T ls a = l1 at *
  have v1 : ati l1 q = w := by rw [g3 _ q0.1, if_neg (fun e => d2 e.symm), if_neg (fun e => d4 e.symm), h2]
  obtain ⟨k1, k2, k3⟩ := lift_atI (k := q) (t := r) hr g1 q0.1 (by omega) (by rw [v1]; exact hw) (by rw [v1, s2])
  generalize liftI W T l1 q = l2 at *
  have za : ati l2 a = 0 := by rw [k3 a a0.1, if_neg d2, if_neg d3, g3 a a0.1, if_pos rfl]
  have zp : ati l2 p = 0 := by rw [k3 p p0.1, if_neg d4, if_neg d5, g3 p p0.1, if_neg (fun e => d1 e.symm), if_pos rfl]
  have zq : ati l2 q = 0 := by rw [k3 q q0.1, if_pos rfl]
  have zr : ati l2 r = 0 := by rw [k3 r r0.1, if_neg (fun e => d6 e.symm), if_pos rfl]
  obtain ⟨m1, m2, m3⟩ := lay_atI (k := a) (way := v) (t := q) hr k1 (free_of a0.1 (by omega) s3 q0.1 a3 c3 za zq) s3
  generalize layI W T l2 a v = l3 at *
  have yp : ati l3 p = 0 := by rw [m3 p p0.1, if_neg d4, if_neg (fun e => d1 e.symm), zp]
  have yr : ati l3 r = 0 := by rw [m3 r r0.1, if_neg (fun e => d6 e.symm), if_neg (fun e => d3 e.symm), zr]
  obtain ⟨n1, n2, n3⟩ := lay_atI (k := p) (way := v) (t := r) hr m1 (free_of p0.1 (by omega) s4 r0.1 a5 c5 yp yr) s4
  generalize layI W T l3 p v = l5 at *
  have e : l4 = l5 := by
    refine ext_ati (by omega) fun k hk => ?_
    rw [h4 k (by omega), n3 k (by omega)]
    by_cases e1 : (k : Int) = r
    · rw [if_pos e1, if_pos e1]
    rw [if_neg e1, if_neg e1]
    by_cases e2 : (k : Int) = p
    · rw [if_pos e2, if_pos e2]
    rw [if_neg e2, if_neg e2, m3 k (by omega)]
    by_cases e3 : (k : Int) = q
    · rw [if_pos e3, if_pos e3]
    rw [if_neg e3, if_neg e3]
    by_cases e4 : (k : Int) = a
    · rw [if_pos e4, if_pos e4]
    rw [if_neg e4, if_neg e4, k3 k (by omega), if_neg e3, if_neg e1, g3 k (by omega), if_neg e4, if_neg e2]
  rw [e]; exact n1

/-- What two dominoes around a corner say of its cells; and the flip lays dominoes again. -/
theorem flip_ok {W T : Int} {cs : List Bool} {ls : List Int} {c : Int} (hr : regB W T cs = true) (hy : laysB W T cs ls = true) (hf : flipB W T ls c = true) :
    (atb cs (swI W c) = true ∧ atb cs (swI W c + 1) = true ∧ atb cs (swI W c + W) = true ∧ atb cs (swI W c + W + 1) = true) ∧ laysB W T cs (flipI W T ls c) = true := by
  obtain ⟨w1, w2, t1, t2, l1, _⟩ := regB_W hr
  have hl := lays_len hy
  have hf2 := hf
  simp only [flipB, Bool.and_eq_true, Bool.or_eq_true] at hf2
  obtain ⟨hm, hf3⟩ := hf2
  obtain ⟨s0, s1⟩ := sw_at w1 hm
  obtain ⟨x, y, x0, x1, y0, y1, e, _⟩ := mid_at w1 hm
  obtain ⟨q1, q2, q3, q4⟩ := mid_steps (T := T) w1 x0 x1 y0 y1
  rw [← e] at q1 q2 q3 q4
  have hW2 : 2 ≤ W := by omega
  have key : flipI W T ls c = if flatB W ls c = true then set4 ls (swI W c) W 2 2 4 4 else set4 ls (swI W c) W 1 3 1 3 := by unfold flipI; rw [if_pos hf]
  rw [key]
  by_cases hF : flatB W ls c = true
  · rw [if_pos hF]
    simp only [flatB, Bool.and_eq_true, decide_eq_true_eq] at hF
    generalize swI W c = a at *
    have := turn_ok (l4 := set4 ls a W 2 2 4 4) (a := a) (p := a + 1) (q := a + W) (r := a + W + 1) (w := 1) (v := 2) hr hy (by omega) (by omega) (by omega) (by omega) (by omega) (by omega) (by omega) (by omega) (by omega) (by omega)
      q1 q3 q2 (by rw [q4]; omega) (by decide) hF.1 hF.2 (set4_length ..) (fun j hj => by
        rw [ati_set4 s0 w1 (by omega) hj, show backI 2 = 4 by decide]
        by_cases e1 : j = a + W + 1
        · rw [if_pos e1, if_pos e1]
        rw [if_neg e1, if_neg e1]
        by_cases e2 : j = a + W
        · rw [if_pos e2, if_neg (by omega), if_pos e2]
        rw [if_neg e2, if_neg e2])
    exact ⟨⟨this.1.1, this.1.2.1, this.1.2.2.1, this.1.2.2.2⟩, this.2⟩
  · rw [if_neg hF]
    have hU : upB W ls c = true := hf3.resolve_left hF
    simp only [upB, Bool.and_eq_true, decide_eq_true_eq] at hU
    generalize swI W c = a at *
    have := turn_ok (l4 := set4 ls a W 1 3 1 3) (a := a) (p := a + W) (q := a + 1) (r := a + W + 1) (w := 2) (v := 1) hr hy (by omega) (by omega) (by omega) (by omega) (by omega) (by omega) (by omega) (by omega) (by omega) (by omega)
      q2 (by rw [q4]; omega) q1 q3 (by decide) hU.1 hU.2 (set4_length ..) (fun j hj => by
        rw [ati_set4 s0 w1 (by omega) hj, show backI 1 = 3 by decide])
    exact ⟨⟨this.1.1, this.1.2.2.1, this.1.2.1, this.1.2.2.2⟩, this.2⟩

/-! Forced dominoes: the list grows exactly if it changes. -/
theorem forceAllN_grow {W T : Int} {cs : List Bool} {ds : List Int} : ∀ (n : Nat) (ls : List Int), fairB W T cs ds ls = true →
    domN ls ≤ domN (forceAllN W T cs ds n ls) ∧ (forceAllN W T cs ds n ls = ls ∨ domN ls < domN (forceAllN W T cs ds n ls))
  | 0, ls, _ => ⟨Nat.le_refl _, .inl rfl⟩
  | n + 1, ls, hf => by
    obtain ⟨hr, hd, hy, ho⟩ := fair_parts hf
    have hl := lays_len hy
    unfold forceAllN
    by_cases hb : force1B W T cs ds ls = true
    · have h1 := force1_domN (ds := ds) hr hl hb
      have h2 := forceAllN_grow n (force1 W T cs ds ls) (force1_fair hf)
      simp only [hb, if_true]
      exact ⟨by omega, .inr (by omega)⟩
    · have hb' : force1B W T cs ds ls = false := by simpa using hb
      simp [hb']
theorem forceAll_grow {W T : Int} {cs : List Bool} {ds ls : List Int} (hf : fairB W T cs ds ls = true) : (domN ls < domN (forceAllI W T cs ds ls)) ↔ forceAllI W T cs ds ls ≠ ls := by
  obtain ⟨h1, h2⟩ := forceAllN_grow ls.length ls hf
  unfold forceAllI at *
  constructor
  · intro h e; rw [e] at h; omega
  · intro h; exact h2.resolve_left h

end Go.Proofs.Dev

namespace Go.Proofs.Dev
set_option linter.unusedSimpArgs false
set_option maxRecDepth 100000

/-- Whether a cell of the field, by column and row, belongs to the region. -/
def atXY (W T : Int) (cs : List Bool) (x y : Int) : Bool := decide (0 ≤ x ∧ x ≤ W - 1) && (decide (0 ≤ y ∧ y ≤ T - 1) && atb cs (y * W + x))

theorem xy_in {W T x y : Int} (h1 : 0 ≤ x ∧ x ≤ W - 1) (h2 : 0 ≤ y ∧ y ≤ T - 1) : 0 ≤ y * W ∧ y * W + x < W * T := by
  have a1 : 0 ≤ y * W := Int.mul_nonneg h2.1 (by omega)
  have a2 : (y + 1) * W ≤ T * W := Int.mul_le_mul_of_nonneg_right (by omega) (by omega)
  rw [Int.add_mul, Int.one_mul, Int.mul_comm T W] at a2
  omega

theorem s_spec_l1At (W T : Int) (cs : List Bool) (x y : Int) (hr : regB W T cs = true) (hx : -9 ≤ x ∧ x ≤ 9 * 2 ^ 40) (hy : -9 ≤ y ∧ y ≤ 9 * 2 ^ 40) :
    SoundAt Try.prog n_spec_l1At [.agg [.v (.int .i64 W), .v (.int .i64 T), .sl 1 1 (bools cs)], .v (.int .i64 x), .v (.int .i64 y)] (.v (.bool (atXY W T cs x y))) [.bot, .bot, .bot] := by
  obtain ⟨w1, w2, t1, t2, l1, _⟩ := regB_W hr
  have h36 := regB_len hr
  refine fn_ok (md := md5) (ms := [false, false, false]) k_spec_l1At (by simp) ?_
  by_cases h1 : 0 ≤ x ∧ x ≤ W - 1
  · by_cases h2 : 0 ≤ y ∧ y ≤ T - 1
    · obtain ⟨m1, m2⟩ := xy_in h1 h2
      simp [c_spec_l1At, atXY, h1, h2]
      refine ⟨by omega, ?_⟩
      refine call_on (s_spec_l1In_t (x := x) (lo := 0) (hi := W - 1) h1) ?_
      simp
      refine ⟨by omega, ?_⟩
      refine call_on (s_spec_l1In_t (x := y) (lo := 0) (hi := T - 1) h2) ?_
      have n1 : 0 ≤ y * W + x := by omega
      have n2 : y * W + x < cs.length := by omega
      simp [n1, n2]
      omega
    · simp [c_spec_l1At, atXY, h1, h2]
      refine ⟨by omega, ?_⟩
      refine call_on (s_spec_l1In_t (x := x) (lo := 0) (hi := W - 1) h1) ?_
      simp
      refine ⟨by omega, ?_⟩
      refine call_on (s_spec_l1In_f (x := y) (lo := 0) (hi := T - 1) h2) ?_
      simp
  · simp [c_spec_l1At, atXY, h1]
    refine ⟨by omega, ?_⟩
    refine call_on (s_spec_l1In_f (x := x) (lo := 0) (hi := W - 1) h1) ?_
    simp

def corI (W T : Int) : Int := (W + 1) * (T + 1)
theorem cor_in {W T : Int} (w1 : 1 ≤ W) (w2 : W ≤ 6) (t1 : 1 ≤ T) (t2 : T ≤ 6) : 4 ≤ corI W T ∧ corI W T ≤ 49 := by
  have h1 : (2 : Int) * 2 ≤ (W + 1) * (T + 1) := Int.mul_le_mul (by omega) (by omega) (by omega) (by omega)
  have h2 : (W + 1) * (T + 1) ≤ 7 * 7 := Int.mul_le_mul (by omega) (by omega) (by omega) (by omega)
  unfold corI; omega

theorem s_spec_CornerMany (W T : Int) (cs : List Bool) (hb : cs.length < 2 ^ 40) :
    SoundAt Try.prog n_spec_CornerMany [.agg [.v (.int .i64 W), .v (.int .i64 T), .sl 1 1 (bools cs)]] (.v (.int .i64 (if regB W T cs = true then corI W T else -1))) [.bot] := by
  refine fn_ok (md := md5) (ms := [false]) k_spec_CornerMany (by simp) ?_
  simp [c_spec_CornerMany]
  refine call_on (s_spec_RegionValid W T cs hb) ?_
  cases hr : regB W T cs with
  | false => simp
  | true =>
    obtain ⟨w1, w2, t1, t2, l1, _⟩ := regB_W hr
    have := cor_in w1 w2 t1 t2
    unfold corI at *
    simp
    omega

/-- The four cells around a corner all belong to the region. -/
def sqB (W T : Int) (cs : List Bool) (c : Int) : Bool :=
  ((atXY W T cs (c % (W + 1) - 1) (c / (W + 1) - 1) && atXY W T cs (c % (W + 1)) (c / (W + 1) - 1)) && atXY W T cs (c % (W + 1) - 1) (c / (W + 1))) && atXY W T cs (c % (W + 1)) (c / (W + 1))

theorem sq_mid {W T : Int} {cs : List Bool} {c : Int} (h0 : 0 ≤ c) (h : sqB W T cs c = true) : midB W T c = true := by
  simp only [sqB, atXY, Bool.and_eq_true, decide_eq_true_eq] at h
  simp only [midB, decide_eq_true_eq]
  omega

set_option maxHeartbeats 1000000 in
theorem s_spec_l5Square (W T : Int) (cs : List Bool) (c : Int) (hr : regB W T cs = true) (h0 : 0 ≤ c) (h1 : c < 2 ^ 40) :
    SoundAt Try.prog n_spec_l5Square [.agg [.v (.int .i64 W), .v (.int .i64 T), .sl 1 1 (bools cs)], .v (.int .i64 c)]
      (if sqB W T cs c = true then .tup [.v (.int .i64 (swI W c)), .v (.int .i64 (swI W c + 1)), .v (.int .i64 (swI W c + W)), .v (.int .i64 (swI W c + W + 1)), .v (.bool true)]
        else .tup [.v (.int .i64 0), .v (.int .i64 0), .v (.int .i64 0), .v (.int .i64 0), .v (.bool false)]) [.bot, .bot] := by
  obtain ⟨w1, w2, t1, t2, l1, _⟩ := regB_W hr
  have h36 := regB_len hr
  have m1 := Int.emod_nonneg c (show W + 1 ≠ 0 by omega)
  have m2 := Int.emod_lt_of_pos c (show 0 < W + 1 by omega)
  have m3 := Int.ediv_nonneg h0 (show 0 ≤ W + 1 by omega)
  have m4 := Int.ediv_le_self (W + 1) h0
  have hs := @sq_mid W T cs c h0
  have c1 := s_spec_l1At W T cs (c % (W + 1) - 1) (c / (W + 1) - 1) hr (by omega) (by omega)
  have c2 := s_spec_l1At W T cs (c % (W + 1)) (c / (W + 1) - 1) hr (by omega) (by omega)
  have c3 := s_spec_l1At W T cs (c % (W + 1) - 1) (c / (W + 1)) hr (by omega) (by omega)
  have c4 := s_spec_l1At W T cs (c % (W + 1)) (c / (W + 1)) hr (by omega) (by omega)
  have hsw := @sw_at W T c w1
  have hsd : swI W c = (c / (W + 1) - 1) * W + c % (W + 1) - 1 := rfl
  unfold sqB at *
  have w0 : 1 ≤ W + 1 := by omega
  refine fn_ok (md := md5) (ms := [false, false]) k_spec_l5Square (by simp) ?_
  simp [c_spec_l5Square, h0, w0]
  generalize c % (W + 1) = x at *
  generalize c / (W + 1) = y at *
  refine ⟨by omega, by omega, by omega, by omega, ?_⟩
  refine call_on c1 ?_
  cases b1 : atXY W T cs (x - 1) (y - 1) with
  | false => simp
  | true =>
  simp
  refine ⟨by omega, ?_⟩
  refine call_on c2 ?_
  cases b2 : atXY W T cs x (y - 1) with
  | false => simp
  | true =>
  simp
  refine ⟨by omega, ?_⟩
  refine call_on c3 ?_
  cases b3 : atXY W T cs (x - 1) y with
  | false => simp
  | true =>
  simp
  refine call_on c4 ?_
  cases b4 : atXY W T cs x y with
  | false => simp
  | true =>
  have hm := hsw (hs (by simp [b1, b2, b3, b4]))
  rw [hsd] at hm
  rw [hsd]
  simp
  generalize (y - 1) * W = z at *
  (repeat' first | omega | rfl | apply And.intro)
end Go.Proofs.Dev

namespace Go.Proofs.Dev
set_option linter.unusedSimpArgs false
set_option maxRecDepth 100000

theorem mid_cor {W T c : Int} (w1 : 1 ≤ W) (t1 : 1 ≤ T) (h : midB W T c = true) : 0 ≤ c ∧ c ≤ corI W T - 1 := by
  simp only [midB, decide_eq_true_eq] at h
  refine ⟨h.1, ?_⟩
  have e := Int.mul_ediv_add_emod c (W + 1)
  have m2 := Int.emod_lt_of_pos c (show 0 < W + 1 by omega)
  have h2 : (W + 1) * (c / (W + 1)) ≤ (W + 1) * T := Int.mul_le_mul_of_nonneg_left (by omega) (by omega)
  unfold corI
  rw [Int.mul_add, Int.mul_one]
  omega

theorem may_eq {W T : Int} {cs : List Bool} {ls : List Int} {c : Int} (hr : regB W T cs = true) (hy : laysB W T cs ls = true) (h0 : 0 ≤ c) :
    (sqB W T cs c && (flatB W ls c || upB W ls c)) = flipB W T ls c := by
  obtain ⟨w1, w2, t1, t2, l1, _⟩ := regB_W hr
  cases hf : flipB W T ls c with
  | true =>
    obtain ⟨⟨a1, a2, a3, a4⟩, _⟩ := flip_ok hr hy hf
    have hf2 := hf
    simp only [flipB, Bool.and_eq_true] at hf2
    obtain ⟨x, y, x0, x1, y0, y1, e, ex, ey⟩ := mid_at w1 hf2.1
    have hm : (y + 1) * W = y * W + W := by rw [Int.add_mul, Int.one_mul]
    rw [e] at a1 a2 a3 a4
    rw [hf2.2, Bool.and_true]
    simp only [sqB, atXY, ex, ey, Bool.and_eq_true, decide_eq_true_eq]
    refine ⟨⟨⟨⟨by omega, by omega, ?_⟩, by omega, by omega, ?_⟩, by omega, by omega, ?_⟩, by omega, by omega, ?_⟩
    · rw [show (y + 1 - 1) * W + (x + 1 - 1) = y * W + x by rw [show y + 1 - 1 = y by omega]; omega]; exact a1
    · rw [show (y + 1 - 1) * W + (x + 1) = y * W + x + 1 by rw [show y + 1 - 1 = y by omega]; omega]; exact a2
    · rw [show (y + 1) * W + (x + 1 - 1) = y * W + x + W by omega]; exact a3
    · rw [show (y + 1) * W + (x + 1) = y * W + x + W + 1 by omega]; exact a4
  | false =>
    cases hs : sqB W T cs c with
    | false => rfl
    | true =>
      have hm := sq_mid h0 hs
      simp only [flipB, hm, Bool.true_and] at hf
      simp [hf]

def mayI (W T : Int) (cs : List Bool) (ls : List Int) (c : Int) : Bool := (regB W T cs && laysB W T cs ls) && flipB W T ls c

theorem s_spec_FlipMay (W T : Int) (cs : List Bool) (ls : List Int) (c : Int) (hb : cs.length < 2 ^ 40) (hl : ls.length < 2 ^ 40) :
    SoundAt Try.prog n_spec_FlipMay [.agg [.v (.int .i64 W), .v (.int .i64 T), .sl 1 1 (bools cs)], .sl 1 1 (ints ls), .v (.int .i64 c)] (.v (.bool (mayI W T cs ls c))) [.bot, .bot, .bot] := by
  refine fn_ok (md := md5) (ms := [false, false, false]) k_spec_FlipMay (by simp) ?_
  simp [c_spec_FlipMay]
  refine call_on (s_spec_LaidOk W T cs ls hb hl) ?_
  unfold mayI
  cases hq : (regB W T cs && laysB W T cs ls) with
  | false => simp
  | true =>
  simp only [Bool.and_eq_true] at hq
  obtain ⟨hr, hy⟩ := hq
  obtain ⟨w1, w2, t1, t2, l1, _⟩ := regB_W hr
  have h36 := regB_len hr
  have hlen := lays_len hy
  have hc := cor_in w1 w2 t1 t2
  have cm := s_spec_CornerMany W T cs hb
  rw [if_pos hr] at cm
  simp
  refine call_on cm ?_
  simp
  refine ⟨by omega, ?_⟩
  by_cases hin : 0 ≤ c ∧ c ≤ corI W T - 1
  case neg =>
    have hf : flipB W T ls c = false := by
      cases hf : flipB W T ls c with
      | false => rfl
      | true =>
        simp only [flipB, Bool.and_eq_true] at hf
        exact absurd (mid_cor w1 t1 hf.1) hin
    refine call_on (s_spec_l1In_f (x := c) (lo := 0) (hi := corI W T - 1) hin) ?_
    simp [hf]
  refine call_on (s_spec_l1In_t (x := c) (lo := 0) (hi := corI W T - 1) hin) ?_
  simp
  have sq := s_spec_l5Square W T cs c hr hin.1 (by omega)
  have me := may_eq (c := c) hr hy hin.1
  cases hs : sqB W T cs c with
  | false =>
    have hff : flipB W T ls c = false := by rw [← me, hs]; rfl
    rw [if_neg (by rw [hs]; decide)] at sq
    refine call_on sq ?_
    simp [hff]
  | true =>
    have hff : flipB W T ls c = (flatB W ls c || upB W ls c) := by rw [← me, hs]; rfl
    rw [if_pos hs] at sq
    have hm := sw_at w1 (sq_mid hin.1 hs)
    rw [hff]
    refine call_on sq ?_
    have q0 := hm.1
    have q1 : swI W c < ls.length := by omega
    have q2 : 0 ≤ swI W c + W := by omega
    have q3 : swI W c + W < ls.length := by omega
    have q4 : 0 ≤ swI W c + 1 := by omega
    have q5 : swI W c + 1 < ls.length := by omega
    unfold flatB upB
    by_cases e1 : ati ls (swI W c) = 1
    · have e2 : ¬ ati ls (swI W c) = 2 := by omega
      simp [q0, q1, q2, q3, q4, q5, e1, e2]
    · by_cases e2 : ati ls (swI W c) = 2
      · simp [q0, q1, q2, q3, q4, q5, e1, e2]
        by_cases e3 : ati ls (swI W c + 1) = 2 <;> simp [e3]
      · simp [q0, q1, q2, q3, q4, q5, e1, e2]

theorem set4_acbd {ls : List Int} {a W : Int} (h0 : 0 ≤ a) (hW : 2 ≤ W) (p q r s : Int) : (((ls.set a.toNat p).set (a + W).toNat r).set (a + 1).toNat q).set (a + W + 1).toNat s = set4 ls a W p q r s := by
  unfold set4
  rw [List.set_comm _ _ (show (a + W).toNat ≠ (a + 1).toNat by omega)]

def flipL (W T : Int) (cs : List Bool) (ls : List Int) (c : Int) : List Int := if (regB W T cs && laysB W T cs ls) = true then flipI W T ls c else []

set_option maxHeartbeats 1000000 in
theorem s_spec_FlipOne (W T : Int) (cs : List Bool) (ls : List Int) (c : Int) (hb : cs.length < 2 ^ 40) (hl : ls.length < 2 ^ 40) :
    SoundAt Try.prog n_spec_FlipOne [.agg [.v (.int .i64 W), .v (.int .i64 T), .sl 1 1 (bools cs)], .sl 1 1 (ints ls), .v (.int .i64 c)]
      (.tup [.os 1 (ints (flipL W T cs ls c)), .v (.bool (mayI W T cs ls c))]) [.bot, .bot, .bot] := by
  refine fn_ok (md := md5) (ms := [false, false, false]) k_spec_FlipOne (by simp) ?_
  simp [c_spec_FlipOne]
  refine call_on (s_spec_LaidOk W T cs ls hb hl) ?_
  have may := s_spec_FlipMay W T cs ls c hb hl
  unfold mayI flipL at *
  cases hq : (regB W T cs && laysB W T cs ls) with
  | false => simp
  | true =>
  rw [hq] at may
  rw [if_pos rfl]
  simp only [Bool.and_eq_true] at hq
  obtain ⟨hr, hy⟩ := hq
  obtain ⟨w1, w2, t1, t2, l1, _⟩ := regB_W hr
  have h36 := regB_len hr
  have hlen := lays_len hy
  simp
  refine ⟨by omega, ?_⟩
  cases hf : flipB W T ls c with
  | false =>
    rw [hf] at may
    refine call_on may ?_
    have e : flipI W T ls c = ls := by unfold flipI; rw [hf]; rfl
    simp [e]
  | true =>
    rw [hf] at may
    refine call_on may ?_
    have hf2 := hf
    simp only [flipB, Bool.and_eq_true] at hf2
    have hW2 : 2 ≤ W := by
      obtain ⟨x, y, x0, x1, _⟩ := mid_at w1 hf2.1
      omega
    have hc0 := (mid_cor w1 t1 hf2.1)
    have hcor := cor_in w1 w2 t1 t2
    have me := may_eq (c := c) hr hy hc0.1
    rw [hf] at me
    have hs : sqB W T cs c = true := by
      simp only [Bool.and_eq_true] at me
      exact me.1
    have sq := s_spec_l5Square W T cs c hr hc0.1 (by omega)
    rw [if_pos hs] at sq
    have hm := sw_at w1 hf2.1
    have q0 := hm.1
    have q1 : swI W c < ls.length := by omega
    have q2 : 0 ≤ swI W c + W := by omega
    have q3 : swI W c + W < ls.length := by omega
    have q4 : 0 ≤ swI W c + 1 := by omega
    have q5 : swI W c + 1 < ls.length := by omega
    have q6 : 0 ≤ swI W c + W + 1 := by omega
    have q7 : swI W c + W + 1 < ls.length := by omega
    simp
    refine call_on sq ?_
    by_cases hF : flatB W ls c = true
    · have e : flipI W T ls c = set4 ls (swI W c) W 2 2 4 4 := by unfold flipI; rw [if_pos hf, if_pos hF]
      have hF2 := hF
      simp only [flatB, Bool.and_eq_true, decide_eq_true_eq] at hF2
      have ht : (ints (set4 ls (swI W c) W 2 2 4 4)).take ls.length = ints (set4 ls (swI W c) W 2 2 4 4) := List.take_of_length_le (by simp [set4_length])
      unfold set4 at ht e
      simp [q0, q1, q2, q3, q4, q5, q6, q7, hF2.1, ints_set, e, ht]
    · have e : flipI W T ls c = set4 ls (swI W c) W 1 3 1 3 := by unfold flipI; rw [if_pos hf, if_neg hF]
      have hU : upB W ls c = true := by
        have := hf2.2
        simp only [Bool.or_eq_true] at this
        exact this.resolve_left hF
      simp only [upB, Bool.and_eq_true, decide_eq_true_eq] at hU
      have hn1 : ¬ ati ls (swI W c) = 1 := by omega
      have ht : (ints (set4 ls (swI W c) W 1 3 1 3)).take ls.length = ints (set4 ls (swI W c) W 1 3 1 3) := List.take_of_length_le (by simp [set4_length])
      have e4 := set4_acbd (ls := ls) q0 hW2 1 3 1 3
      simp [q0, q1, q2, q3, q4, q5, q6, q7, hU.1, hn1, ints_set, e, e4, ht, set4_length]

/-- The corners that can be flipped, below n. -/
def flipsTo (W T : Int) (cs : List Bool) (ls : List Int) (n : Nat) : List Int := (List.range n).flatMap fun k : Nat => if mayI W T cs ls k then [(k : Int)] else []
theorem flipsTo_succ (W T : Int) (cs : List Bool) (ls : List Int) (n : Nat) : flipsTo W T cs ls (n + 1) = flipsTo W T cs ls n ++ if mayI W T cs ls n then [(n : Int)] else [] := by simp [flipsTo, List.range_succ]
theorem flipsTo_length (W T : Int) (cs : List Bool) (ls : List Int) : ∀ n, (flipsTo W T cs ls n).length ≤ n
  | 0 => by simp [flipsTo]
  | n + 1 => by
    have := flipsTo_length W T cs ls n
    rw [flipsTo_succ]; split <;> simp <;> omega
theorem flipsTo_mem {W T : Int} {cs : List Bool} {ls : List Int} {n : Nat} {x : Int} (h : x ∈ flipsTo W T cs ls n) : 0 ≤ x ∧ x < n := by
  simp only [flipsTo, List.mem_flatMap, List.mem_range] at h
  obtain ⟨k, hk, h⟩ := h
  split at h
  · simp at h; omega
  · simp at h
def corN (W T : Int) (cs : List Bool) : Nat := if regB W T cs = true then (corI W T).toNat else 0
theorem corN_le (W T : Int) (cs : List Bool) : corN W T cs ≤ 49 := by
  unfold corN; split
  · rename_i hr
    obtain ⟨w1, w2, t1, t2, _⟩ := regB_W hr
    have := cor_in w1 w2 t1 t2
    omega
  · omega
def flipsI (W T : Int) (cs : List Bool) (ls : List Int) : List Int := flipsTo W T cs ls (corN W T cs)

theorem s_spec_FlipsOf (W T : Int) (cs : List Bool) (ls : List Int) (hb : cs.length < 2 ^ 40) (hl : ls.length < 2 ^ 40) :
    SoundAt Try.prog n_spec_FlipsOf [.agg [.v (.int .i64 W), .v (.int .i64 T), .sl 1 1 (bools cs)], .sl 1 1 (ints ls)] (.os 1 (ints (flipsI W T cs ls))) [.bot, .bot] := by
  refine fn_ok (md := md5) (ms := [false, false]) k_spec_FlipsOf (by simp) ?_
  have cm := s_spec_CornerMany W T cs hb
  have h49 := corN_le W T cs
  have hcor : ∀ k : Nat, ((k : Int) < if regB W T cs = true then corI W T else -1) ↔ k < corN W T cs := by
    intro k
    unfold corN
    split
    · rename_i hr
      obtain ⟨w1, w2, t1, t2, _⟩ := regB_W hr
      have := cor_in w1 w2 t1 t2
      omega
    · omega
  simp [c_spec_FlipsOf]
  refine loop_by (fun m E H => ∃ i : Nat, m = corN W T cs - i ∧ i ≤ corN W T cs ∧ E = [(1, .sl 1 1 (ints ls)), (2, .lp 0 0 0 0), (5, .ls 1 1 0 (flipsTo W T cs ls i).length), (6, .v (.int .i64 i))] ∧
    H = [some (.box [.v (.int .i64 W), .v (.int .i64 T), .sl 1 1 (bools cs)]), some (.arr 1 (ints (flipsTo W T cs ls i)))]) (corN W T cs) ⟨0, rfl, by omega, by simp [flipsTo], by simp [flipsTo]⟩ ?_
  rintro J hJ m E H ⟨i, rfl, hi, rfl, rfl⟩
  have hfl := flipsTo_length W T cs ls i
  have hc := hcor i
  have may := s_spec_FlipMay W T cs ls i hb hl
  have hstep := flipsTo_succ W T cs ls i
  simp [c_spec_FlipsOf_L0]
  refine call_on cm ?_
  by_cases h : i < corN W T cs
  · have hc2 := hc.2 h
    simp [hc2]
    refine call_on may ?_
    cases hm : mayI W T cs ls i with
    | false =>
      rw [hm] at hstep
      simp at hstep
      simp
      exact ⟨by omega, _, by omega, hJ _ _ _ ⟨i + 1, rfl, h, by simp [hstep], by simp [hstep]⟩⟩
    | true =>
      rw [hm] at hstep
      simp at hstep
      simp
      exact ⟨by omega, by omega, _, by omega, hJ _ _ _ ⟨i + 1, rfl, h, by simp [hstep], by simp [hstep, ints_append, ints_one]⟩⟩
  · have hc2 : ¬ ((i : Int) < if regB W T cs = true then corI W T else -1) := fun h2 => h (hc.1 h2)
    have : i = corN W T cs := by omega
    subst this
    have ht : (ints (flipsTo W T cs ls (corN W T cs))).take (flipsTo W T cs ls (corN W T cs)).length = ints (flipsTo W T cs ls (corN W T cs)) := take_ints_all _
    simp [hc2, flipsI, ht]
end Go.Proofs.Dev
