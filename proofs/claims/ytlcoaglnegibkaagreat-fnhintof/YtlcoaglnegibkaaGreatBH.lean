/- Contracts of the functions of the program over slots and rows, each proved against the program itself; no condition beyond those that each theorem names. -/
import Derived.Test.YtlcoaglnegibkaaGreatBG

set_option linter.unusedSimpArgs false
set_option linter.unusedVariables false

namespace Go.Proofs.Dev
set_option linter.unusedSimpArgs false
set_option maxRecDepth 100000

/-- A puzzle is drawn. -/
def puzSet (bs : List Int) (p d : Nat) (r : AV) (ups : List AV) : Prop := ∃ (W T : Int) (cs : List Bool) (ds : List Int) (q : Nat), r = .tup [regA W T cs, .os 1 (ints ds)] ∧ cs.length ≤ 37 ∧ ds.length ≤ 37 ∧ q ≤ p + d ∧ ups = [rdA bs q, .bot]

def c_puzA : ACode :=
  (.seq (.reg [⟨(some 32), .mv, [.t 8], none⟩,
    ⟨(some 33), .un .not, [.t 32], none⟩,
    ⟨(some 34), .mv, [.t 33], none⟩,
    ⟨(some 35), .mv, [.t 0], (some (34, false))⟩,
    ⟨(some 36), .call 53 [], [.t 35, .c (.v (.int .i64 (3)))], (some (34, false))⟩,
    ⟨(some 37), .bin .eql 0, [.t 36, .c (.v (.int .i64 (0)))], (some (34, false))⟩,
    ⟨(some 38), .pick, [.t 34, .c (.v (.bool true)), .t 37], none⟩]) <|
  .cond (.t 38) (
    .seq (.reg [⟨(some 39), .bsl 1, [], none⟩,
      ⟨(some 9), .mv, [.t 39], none⟩]) <|
    .seq (.reg [⟨(some 40), .mv, [.t 0], none⟩,
      ⟨(some 41), .call 53 [], [.t 40, .c (.v (.int .i64 (6)))], none⟩,
      ⟨(some 42), .bin .add 0, [.c (.v (.int .i64 (2))), .t 41], none⟩,
      ⟨(some 10), .mv, [.t 42], none⟩]) <|
    .seq (.reg [⟨(some 11), .mv, [.c (.v (.int .i64 (0)))], none⟩]) <|
    .block 0 (
      .loop [(9, 1)] [0, 1, 4, 6, 9, 10, 11, 87] c_spec_l20Puzzle_L0)) (
    .skip))
def c_puz_T : ACode :=
  .seq (.seq (.reg [⟨(some 65), .mv, [.t 0], none⟩,
    ⟨(some 66), .mv, [.t 1], none⟩,
    ⟨(some 67), .bin .mul 0, [.c (.v (.int .i64 (2))), .t 66], none⟩,
    ⟨(some 68), .call 56 [], [.t 65, .t 67], none⟩,
    ⟨(some 69), .mv, [.t 68], none⟩,
    ⟨(some 70), .mv, [.t 9], (some (69, true))⟩,
    ⟨(some 71), .len false, [.t 70], (some (69, true))⟩,
    ⟨(some 72), .bin .gtr 0, [.t 71, .c (.v (.int .i64 (0)))], (some (69, true))⟩,
    ⟨(some 73), .pick, [.t 69, .t 72, .c (.v (.bool false))], none⟩]) <|
  .cond (.t 73) (
    .reg [⟨(some 74), .mv, [.t 9], none⟩,
      ⟨(some 75), .mv, [.t 0], none⟩,
      ⟨(some 76), .mv, [.t 9], none⟩,
      ⟨(some 77), .len false, [.t 76], none⟩,
      ⟨(some 78), .call 53 [], [.t 75, .t 77], none⟩,
      ⟨(some 79), .bsl 1, [.c (.v (.int .i64 (-1))), .c (.v (.int .i64 (7))), .c (.v (.int .i64 (0)))], none⟩,
      ⟨(some 80), .mv, [.t 0], none⟩,
      ⟨(some 81), .call 53 [], [.t 80, .c (.v (.int .i64 (3)))], none⟩,
      ⟨(some 82), .iadr 1, [.t 79, .t 81], none⟩,
      ⟨(some 83), .load false 1, [.t 82], none⟩,
      ⟨(some 84), .iadr 1, [.t 74, .t 78], none⟩,
      ⟨none, .store 1, [.t 84, .t 83], none⟩]) (
    .skip)) <|
  .seq (.reg [⟨(some 85), .load true 3, [.t 6], none⟩,
    ⟨(some 86), .mv, [.t 9], none⟩,
    ⟨none, .store 3, [.t 4, .t 85], none⟩,
    ⟨(some 5), .mv, [.t 86], none⟩]) <|
  .ret
theorem puz_parts : c_spec_l20Puzzle_T1 = .seq c_puzA c_puz_T := rfl

abbrev puzH (bs : List Int) (q : Nat) (W T : Int) (cs : List Bool) (ds : List Int) : Heap :=
  [some (.box [.sl 0 1 (u8s bs), .v (.int .i64 q)]), some (.box [.v (.int .i64 0), .v (.int .i64 0), .os 1 []]), some (.box [.v (.int .i64 W), .v (.int .i64 T), .ls 1 4 0 cs.length]), some (.arr 1 (ints ds)), some (.arr 1 (bools cs))]

abbrev nd3 : List AV := [AV.v (.int .i64 (-1)), AV.v (.int .i64 7), AV.v (.int .i64 0)]
theorem ndget {x : Int} (h0 : 0 ≤ x) (h1 : x < 3) : ∃ v : Int, ∀ h : x.toNat < nd3.length, nd3[x.toNat]'h = .v (.int .i64 v) := by
  obtain rfl | rfl | rfl : x = 0 ∨ x = 1 ∨ x = 2 := by omega
  · exact ⟨-1, fun _ => rfl⟩
  · exact ⟨7, fun _ => rfl⟩
  · exact ⟨0, fun _ => rfl⟩

theorem puz_tail (bs : List Int) (p q : Nat) (n W T : Int) (cs : List Bool) (ds : List Int) (hb : bs.length ≤ 2000) (hB : Byt bs) (hp : p < 2 ^ 35) (hn0 : 0 ≤ n) (hn : n < 2 ^ 20) (hcs : cs.length ≤ 37) (hds : ds.length ≤ 37) (hq : q ≤ p + 550) (E : ES)
    (e0 : get E 0 = .lp 0 0 0 0) (e1 : get E 1 = .v (.int .i64 n)) (e4 : get E 4 = .lp 0 1 0 0) (e6 : get E 6 = .lp 0 2 0 0) (e9 : get E 9 = .ls 1 3 0 ds.length) (e87 : get E 87 = .lp 0 0 0 0) :
    awp Tryz.prog md5 c_puz_T (FinS [RV.c 4 true 3, RV.t 5] 87 2 [true, false] (puzSet bs p 600)) E (puzH bs q W T cs ds) := by
  have fin : ∀ (ds2 : List Int) (q2 : Nat), ds2.length ≤ 37 → q2 ≤ p + 600 → puzSet bs p 600 (.tup [regA W T cs, .os 1 (ints ds2)]) [rdA bs q2, .bot] := fun ds2 q2 h1 h2 => ⟨W, T, cs, ds2, q2, rfl, hcs, h1, h2, rfl⟩
  simp [c_puz_T, e0, e1, e4, e6, e9, e87]
  refine ⟨by omega, ?_⟩
  refine call_onK (s_spec_l20Rd_odd bs q (2 * n) hb hB (by omega) (by omega)) [0] (by simp) (by simp) (by simp) ?_
  rintro _ _ ⟨b, q2, rfl, hq2, rfl⟩
  cases b with
  | false =>
    simp [get_purgeE, e0, e1, e4, e6, e9, e87]
    refine ⟨_, _, fin ds q2 hds (by omega), ?_⟩
    simp [regA, get_purgeE, e0, e1, e4, e6, e9, e87]
  | true =>
  by_cases hl : 0 < ds.length
  · simp [get_purgeE, e0, e1, e4, e6, e9, e87, hl]
    refine call_onK (s_spec_l20Rd_pick bs q2 ds.length hb hB (by omega)) [0] (by simp) (by simp) (by simp) ?_
    rintro _ _ ⟨x, x0, x1, rfl, rfl⟩
    simp [get_purgeE, e0, e1, e4, e6, e9, e87, hl]
    refine call_onK (s_spec_l20Rd_pick bs (q2 + 1) 3 hb hB (by omega)) [0] (by simp) (by simp) (by simp) ?_
    rintro _ _ ⟨y, y0, y1, rfl, rfl⟩
    have y3 : y < 3 := by omega
    obtain ⟨v, hv⟩ := ndget y0 y3
    have x3 : x < ds.length := by omega
    simp [get_purgeE, e0, e1, e4, e6, e9, e87, hl, y0, y3, hv, x0, x3, ints_set]
    refine ⟨_, _, fin (ds.set x.toNat v) (q2 + 1 + 1) (by simpa using hds) (by omega), ?_⟩
    have htk : (ints (ds.set x.toNat v)).take ds.length = ints (ds.set x.toNat v) := List.take_of_length_le (by simp)
    simp [regA, get_purgeE, e0, e1, e4, e6, e9, e87, htk]
  · have hl' : ds.length = 0 := by omega
    simp [get_purgeE, e0, e1, e4, e6, e9, e87, hl, hl']
    refine ⟨_, _, fin [] q2 (by simp) (by omega), ?_⟩
    simp [regA, get_purgeE, e0, e1, e4, e6, e9, e87]

theorem bools_getI {cs : List Bool} {i : Nat} (h : i < (bools cs).length) : (bools cs)[i]'h = .v (.bool (atb cs i)) := by
  have h2 : i < cs.length := by simpa using h
  simp [bools, atb, h2]

theorem puz_gen (bs : List Int) (p q : Nat) (n W T : Int) (cs : List Bool) (ds : List Int) (hb : bs.length ≤ 2000) (hB : Byt bs) (hp : p < 2 ^ 35) (hn0 : 0 ≤ n) (hn : n < 2 ^ 20) (hcs : cs.length ≤ 37) (hq : q ≤ p + 500) (wide : Int) (hw : 0 ≤ wide ∧ wide ≤ 100) (Qc : AExit → ES → Heap → Prop)
    (hend : ∀ (q2 : Nat) (ds : List Int) (b : Bool), q2 ≤ p + 540 → ds.length ≤ 37 → Qc (.exit 0) [(47, .v (.bool b)), (46, .v (.int .i64 cs.length)), (45, .ls 1 4 0 cs.length), (44, .lp 0 2 0 2), (43, .v (.int .i64 cs.length)), (0, .lp 0 0 0 0), (1, .v (.int .i64 n)), (4, .lp 0 1 0 0), (6, .lp 0 2 0 0), (9, .ls 1 3 0 ds.length), (10, .v (.int .i64 wide)), (11, .v (.int .i64 cs.length)), (87, .lp 0 0 0 0)] (puzH bs q2 W T cs ds)) :
    loopNode [(9, 1)] [0, 1, 4, 6, 9, 10, 11, 87] (awp Tryz.prog md5 c_spec_l20Puzzle_L0) Qc
      [(0, .lp 0 0 0 0), (1, .v (.int .i64 n)), (4, .lp 0 1 0 0), (6, .lp 0 2 0 0), (9, .ls 1 3 0 0), (10, .v (.int .i64 wide)), (11, .v (.int .i64 0)), (87, .lp 0 0 0 0)] (puzH bs q W T cs []) := by
  refine loop_by (fun m E H => ∃ (i q2 : Nat) (ds : List Int), m = cs.length - i ∧ i ≤ cs.length ∧ ds.length = i ∧ q2 ≤ q + i ∧ H = puzH bs q2 W T cs ds ∧
    E = [(0, .lp 0 0 0 0), (1, .v (.int .i64 n)), (4, .lp 0 1 0 0), (6, .lp 0 2 0 0), (9, .ls 1 3 0 ds.length), (10, .v (.int .i64 wide)), (11, .v (.int .i64 i)), (87, .lp 0 0 0 0)]) cs.length ⟨0, q, [], rfl, by omega, rfl, by omega, by simp, by simp⟩ ?_
  rintro J hJ m E H ⟨i, q2, ds, rfl, hi, hdl, hq2, rfl, rfl⟩
  by_cases h : i < cs.length
  case neg =>
    have : i = cs.length := by omega
    subst this
    simp [c_spec_l20Puzzle_L0]
    exact hend q2 ds false (by omega) (by omega)
  have next : ∀ (q3 : Nat) (v : Int), q3 ≤ q2 + 1 → again J (cs.length - i) [(0, .lp 0 0 0 0), (1, .v (.int .i64 n)), (4, .lp 0 1 0 0), (6, .lp 0 2 0 0), (9, .ls 1 3 0 (ds.length + 1)), (10, .v (.int .i64 wide)), (11, .v (.int .i64 (i + 1))), (87, .lp 0 0 0 0)]
      [some (.box [.sl 0 1 (u8s bs), .v (.int .i64 q3)]), some (.box [.v (.int .i64 0), .v (.int .i64 0), .os 1 []]), some (.box [.v (.int .i64 W), .v (.int .i64 T), .ls 1 4 0 cs.length]), some (.arr 1 (ints ds ++ [.v (.int .i64 v)])), some (.arr 1 (bools cs))] := by
    intro q3 v h3
    exact ⟨_, by omega, hJ _ _ _ ⟨i + 1, q3, ds ++ [v], rfl, h, by simp [hdl], by omega, by simp [ints_append, ints_one], by simp⟩⟩
  cases hc : atb cs i with
  | true =>
    simp [c_spec_l20Puzzle_L0, h, hc, bools_getI]
    refine call_onK (s_spec_l20Rd_pick bs q2 (if 7 < wide then 7 else wide) hb hB (by omega)) [0] (by simp) (by simp) (by simp) ?_
    rintro _ _ ⟨x, x0, x1, rfl, rfl⟩
    have n2 := next (q2 + 1) x (by omega)
    simp only [Int.natCast_add, Int.natCast_one] at n2
    simp
    (repeat' first | omega | assumption | apply And.intro)
  | false =>
    have n2 := next q2 (-1) (by omega)
    simp [c_spec_l20Puzzle_L0, h, hc, bools_getI]
    (repeat' first | omega | assumption | apply And.intro)

theorem puz_T1 (bs : List Int) (p q : Nat) (n W T : Int) (cs : List Bool) (ds : List Int) (ok : Bool) (hb : bs.length ≤ 2000) (hB : Byt bs) (hp : p < 2 ^ 35) (hn0 : 0 ≤ n) (hn : n < 2 ^ 20) (hcs : cs.length ≤ 37) (hds : ds.length ≤ 37) (hq : q ≤ p + 450) :
    awp Tryz.prog md5 c_spec_l20Puzzle_T1 (FinS [RV.c 4 true 3, RV.t 5] 87 2 [true, false] (puzSet bs p 600))
      [(0, .lp 0 0 0 0), (1, .v (.int .i64 n)), (4, .lp 0 1 0 0), (6, .lp 0 2 0 0), (8, .v (.bool ok)), (9, .ls 1 3 0 ds.length), (87, .lp 0 0 0 0)] (puzH bs q W T cs ds) := by
  rw [puz_parts]
  cases ok with
  | false =>
    simp [c_puzA]
    refine call_onK (s_spec_l20Rd_pick bs q 6 hb hB (by omega)) [0] (by simp) (by simp) (by simp) ?_
    rintro _ _ ⟨x, x0, x1, rfl, rfl⟩
    simp
    refine ⟨by omega, ?_⟩
    refine puz_gen bs p (q + 1) n W T cs [] hb hB hp hn0 hn hcs (by omega) (2 + x) (by omega) _ ?_
    intro q2 ds2 b h1 h2
    simp
    exact puz_tail bs p q2 n W T cs ds2 hb hB hp hn0 hn hcs h2 (by omega) _ rfl rfl rfl rfl rfl rfl
  | true =>
    simp [c_puzA]
    refine call_onK (s_spec_l20Rd_pick bs q 3 hb hB (by omega)) [0] (by simp) (by simp) (by simp) ?_
    rintro _ _ ⟨y, y0, y1, rfl, rfl⟩
    by_cases c0 : y = 0
    · simp [c0]
      refine call_onK (s_spec_l20Rd_pick bs (q + 1) 6 hb hB (by omega)) [0] (by simp) (by simp) (by simp) ?_
      rintro _ _ ⟨x, x0, x1, rfl, rfl⟩
      simp
      refine ⟨by omega, ?_⟩
      refine puz_gen bs p (q + 1 + 1) n W T cs [] hb hB hp hn0 hn hcs (by omega) (2 + x) (by omega) _ ?_
      intro q2 ds2 b h1 h2
      simp
      exact puz_tail bs p q2 n W T cs ds2 hb hB hp hn0 hn hcs h2 (by omega) _ rfl rfl rfl rfl rfl rfl
    · simp [c0]
      exact puz_tail bs p (q + 1) n W T cs ds hb hB hp hn0 hn hcs hds (by omega) _ rfl rfl rfl rfl rfl rfl

theorem puz_T2 (bs : List Int) (p q : Nat) (n W T : Int) (cs : List Bool) (ls : List Int) (ok : Bool) (hb : bs.length ≤ 2000) (hB : Byt bs) (hp : p < 2 ^ 35) (hn0 : 0 ≤ n) (hn : n < 2 ^ 20) (hcs : cs.length ≤ 37) (hls : ls.length ≤ 37) (hq : q ≤ p + 420) :
    awp Tryz.prog md5 c_spec_l20Puzzle_T2 (FinS [RV.c 4 true 3, RV.t 5] 87 2 [true, false] (puzSet bs p 600))
      [(0, .lp 0 0 0 0), (1, .v (.int .i64 n)), (4, .lp 0 1 0 0), (6, .lp 0 2 0 0), (7, .ls 1 3 0 ls.length), (8, .v (.bool ok)), (87, .lp 0 0 0 0)] (puzH bs q W T cs ls) := by
  simp [c_spec_l20Puzzle_T2]
  (repeat' first | omega | apply And.intro) <;>
  · refine call_onK (s_spec_l20Rd_pick bs q 28 hb hB (by omega)) [0] (by simp) (by simp) (by simp) ?_
    rintro _ _ ⟨x, x0, x1, rfl, rfl⟩
    simp
    refine call_on (s_spec_MakePuzzle W T cs ls x (by omega) (by omega)) ?_
    have hml := mkI_length W T cs ls x
    generalize mkI W T cs ls x = ds at *
    simp
    exact puz_T1 bs p (q + 1) n W T cs ds ok hb hB hp hn0 hn hcs (by omega) (by omega)

set_option maxHeartbeats 4000000 in
theorem s_spec_l20Puzzle (bs : List Int) (p : Nat) (n : Int) (hb : bs.length ≤ 2000) (hB : Byt bs) (hp : p < 2 ^ 35) (hn0 : 0 ≤ n) (hn : n < 2 ^ 20) :
    SoundSet Tryz.prog n_spec_l20Puzzle [rdA bs p, .v (.int .i64 n)] (puzSet bs p 600) := by
  refine fn_okS (md := md5) (ms := [true, false]) k_spec_l20Puzzle (by simp) ?_
  simp [c_spec_l20Puzzle]
  refine ⟨by omega, ?_⟩
  refine call_onK (s_spec_l20Small bs p (2 * n) hb hB (by omega) (by omega)) [0] (by simp) (by simp) (by simp) ?_
  rintro _ _ ⟨W, T, cs, q, rfl, hcs, w0, w6, t0, t24, hq, rfl⟩
  have hmax : ∀ x : Int, 0 ≤ x → 0 ≤ x ∧ 1 ≤ (if tmI W T cs < 1 then 1 else tmI W T cs) := by
    intro x hx; split <;> omega
  simp [regA]
  (repeat' first | omega | apply And.intro) <;>
  · refine call_onK (s_spec_l20Rd_pick bs q 256 hb hB (by omega)) [0] (by simp) (by simp) (by simp) ?_
    rintro _ _ ⟨x, x0, x1, rfl, rfl⟩
    simp
    (repeat' first | omega | apply And.intro) <;>
    · refine call_on (s_spec_TilingsMany W T cs (by omega)) ?_
      generalize tmI W T cs = M at *
      simp [hmax x x0]
      refine call_onK (s_spec_TilingOf W T cs (x % if M < 1 then 1 else M) (by omega)) [] (by simp) (by simp) (by simp) ?_
      rintro _ _ ⟨ls, ok, hls, rfl, rfl⟩
      simp
      exact puz_T2 bs p (q + 1) n W T cs ls ok hb hB hp hn0 hn hcs (by omega) (by omega)

end Go.Proofs.Dev
