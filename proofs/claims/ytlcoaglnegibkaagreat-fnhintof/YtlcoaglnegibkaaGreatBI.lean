/- Contracts of the functions of the program over slots and rows, each proved against the program itself; no condition beyond those that each theorem names. -/
import Derived.Test.YtlcoaglnegibkaaGreatBH

set_option linter.unusedSimpArgs false
set_option linter.unusedVariables false

namespace Go.Proofs.Dev
set_option linter.unusedSimpArgs false
set_option maxRecDepth 100000

theorem s_spec_LiftOne (W T : Int) (cs : List Bool) (ls : List Int) (k : Nat) (hr : regB W T cs = true) (hy : laysB W T cs ls = true) (hk : k < ls.length) :
    SoundAt Tryz.prog n_spec_LiftOne [.agg [.v (.int .i64 W), .v (.int .i64 T), .sl 1 1 (bools cs)], .sl 1 1 (ints ls), .v (.int .i64 k)]
      (if ati ls k = 0 then .tup [.os 1 (ints ls), .v (.bool false)] else .tup [.os 1 (ints (liftI W T ls k)), .v (.bool true)]) [.bot, .bot, .bot] := by
  refine fn_ok (md := md5) (ms := [false, false, false]) k_spec_LiftOne (by simp) ?_
  have h36 := regB_len hr
  have hl := lays_len hy
  simp [c_spec_LiftOne]
  refine call_on (s_spec_LaidOk W T cs ls (by omega) (by omega)) ?_
  simp [hr, hy]
  refine ⟨by omega, by omega, ?_⟩
  refine call_on (s_spec_l1In_t (x := k) (lo := 0) (hi := (ls.length : Int) - 1) (by omega)) ?_
  by_cases hz : ati ls k = 0
  · simp [hk, hz]
  obtain ⟨t, e, ht, htk, _⟩ := lift_at hr hy hk hz
  have eL : liftI W T ls k = (ls.set t 0).set k 0 := by unfold liftI; rw [e]; simp
  rw [eL]
  have one := s_spec_l2Step W T cs k (ati ls k) hr (by omega) (by omega)
  rw [e] at one
  simp [hk, hz]
  (repeat' first | assumption | omega | apply And.intro) <;>
  · refine call_on one ?_
    have htk2 : (ints ((ls.set t 0).set k 0)).take ls.length = ints ((ls.set t 0).set k 0) := List.take_of_length_le (by simp)
    simp [ht, hk, ints_set, c_spec_LiftOne_T0, htk2]

def playSet (bs : List Int) (p d : Nat) (r : AV) (ups : List AV) : Prop := ∃ (W T : Int) (cs : List Bool) (ds ls : List Int) (q : Nat), r = .tup [regA W T cs, .os 1 (ints ds), .os 1 (ints ls)] ∧ cs.length ≤ 37 ∧ ds.length ≤ 37 ∧ ls.length ≤ 38 ∧ q ≤ p + d ∧ ups = [rdA bs q]

abbrev playH (bs : List Int) (q : Nat) (W T : Int) (cs : List Bool) (ds ls : List Int) : Heap :=
  [some (.box [.sl 0 1 (u8s bs), .v (.int .i64 q)]), some (.box [.v (.int .i64 0), .v (.int .i64 0), .os 1 []]), some (.box [.v (.int .i64 W), .v (.int .i64 T), .ls 1 5 0 cs.length]), some (.arr 1 (ints ds)), some (.arr 1 (ints ls)), some (.arr 1 (bools cs))]
abbrev playE (ds ls : List Int) (k : Int) : ES := [(0, .lp 0 0 0 0), (2, .lp 0 1 0 0), (5, .lp 0 2 0 0), (6, .ls 1 3 0 ds.length), (7, .ls 1 4 0 ls.length), (9, .v (.int .i64 k)), (81, .lp 0 0 0 0)]

def c_playB : ACode :=
    .seq (.reg [⟨(some 58), .mv, [.t 0], none⟩,
      ⟨(some 59), .call 53 [], [.t 58, .c (.v (.int .i64 (6)))], none⟩,
      ⟨(some 60), .bin .eql 0, [.t 59, .c (.v (.int .i64 (0)))], none⟩]) <|
    .cond (.t 60) (
      .seq (.draw (
        .take ⟨(some 63), .mv, [.t 7], none⟩ <|
        .take ⟨(some 64), .mv, [.t 9], none⟩ <|
        .take ⟨(some 65), .mv, [.t 0], none⟩ <|
        .alt ⟨(some 62), .load true 3, [.t 5], none⟩ (
          .alt ⟨(some 66), .call 53 [], [.t 65, .c (.v (.int .i64 (4)))], none⟩ (
            .take ⟨(some 67), .bin .add 0, [.c (.v (.int .i64 (1))), .t 66], none⟩ <|
            .alt ⟨(some 68), .call 29 [], [.t 62, .t 63, .t 64, .t 67], none⟩ (
              .take ⟨(some 61), .mv, [.t 68], none⟩ <|
              .take ⟨(some 69), .extr 0, [.t 61], none⟩ <|
              .take ⟨(some 70), .extr 1, [.t 61], none⟩ <|
              .take ⟨(some 12), .mv, [.t 69], none⟩ <|
              .take ⟨(some 13), .mv, [.t 70], none⟩ <|
              .done) <|
            .stop) <|
          .stop) <|
        .alt ⟨(some 66), .call 53 [], [.t 65, .c (.v (.int .i64 (4)))], none⟩ (
          .take ⟨(some 67), .bin .add 0, [.c (.v (.int .i64 (1))), .t 66], none⟩ <|
          .alt ⟨(some 62), .load true 3, [.t 5], none⟩ (
            .alt ⟨(some 68), .call 29 [], [.t 62, .t 63, .t 64, .t 67], none⟩ (
              .take ⟨(some 61), .mv, [.t 68], none⟩ <|
              .take ⟨(some 69), .extr 0, [.t 61], none⟩ <|
              .take ⟨(some 70), .extr 1, [.t 61], none⟩ <|
              .take ⟨(some 12), .mv, [.t 69], none⟩ <|
              .take ⟨(some 13), .mv, [.t 70], none⟩ <|
              .done) <|
            .stop) <|
          .stop) <|
        .stop)) <|
      .seq (.reg [⟨(some 71), .mv, [.t 13], none⟩]) <|
      .cond (.t 71) (
        .reg [⟨(some 72), .mv, [.t 12], none⟩,
          ⟨(some 7), .mv, [.t 72], none⟩]) (
        .skip)) (
      .skip)
def c_playI : ACode :=
  .reg [⟨(some 44), .mv, [.t 9], none⟩,
    ⟨(some 45), .bin .add 0, [.t 44, .c (.v (.int .i64 (1)))], none⟩,
    ⟨(some 9), .mv, [.t 45], none⟩]
def c_playA : ACode :=
  (.seq (.reg [⟨(some 46), .mv, [.t 0], none⟩,
      ⟨(some 47), .call 53 [], [.t 46, .c (.v (.int .i64 (4)))], none⟩,
      ⟨(some 48), .bin .eql 0, [.t 47, .c (.v (.int .i64 (0)))], none⟩]) <|
    .cond (.t 48) (
      .seq (.reg [⟨(some 50), .load true 3, [.t 5], none⟩,
        ⟨(some 51), .mv, [.t 7], none⟩,
        ⟨(some 52), .mv, [.t 9], none⟩,
        ⟨(some 53), .call 55 [], [.t 50, .t 51, .t 52], none⟩,
        ⟨(some 49), .mv, [.t 53], none⟩,
        ⟨(some 54), .extr 0, [.t 49], none⟩,
        ⟨(some 55), .extr 1, [.t 49], none⟩,
        ⟨(some 10), .mv, [.t 54], none⟩,
        ⟨(some 11), .mv, [.t 55], none⟩]) <|
      .seq (.reg [⟨(some 56), .mv, [.t 11], none⟩]) <|
      .cond (.t 56) (
        .reg [⟨(some 57), .mv, [.t 10], none⟩,
          ⟨(some 7), .mv, [.t 57], none⟩]) (
        .skip)) (
      .skip))
def c_playC : ACode :=
  (.seq (.reg [⟨(some 40), .mv, [.t 9], none⟩,
    ⟨(some 41), .mv, [.t 7], none⟩,
    ⟨(some 42), .len false, [.t 41], none⟩,
    ⟨(some 43), .bin .lss 0, [.t 40, .t 42], none⟩]) <|
  .cond (.t 43) (
    .skip) (
    .exit 0))
theorem play_parts : c_spec_l20Played_L0 = .seq c_playC (.seq (.block 1 (.seq c_playA c_playB)) c_playI) := rfl

set_option maxHeartbeats 4000000 in
theorem play_half (bs : List Int) (q k m : Nat) (W T : Int) (cs : List Bool) (ds l2 l3 : List Int) (hb : bs.length ≤ 2000) (hB : Byt bs) (hq : q < 2 ^ 35) (hr : regB W T cs = true) (hy2 : laysB W T cs l2 = true) (hy3 : laysB W T cs l3 = true) (hk : k < cs.length) (j : Nat) (X : Heap)
    (hX : (X = [] ∧ j = 4 ∧ l3 = l2) ∨ (∃ l, X = [some (.arr 1 (ints l))] ∧ j = 4 ∧ l3 = l2) ∨ (X = [some (.arr 1 (ints l3))] ∧ j = 6)) (J : Nat → ES → Heap → Prop)
    (hend : ∀ (q2 : Nat) (l4 : List Int), q2 ≤ q + 2 → laysB W T cs l4 = true → again J m (playE ds l4 (k + 1)) (playH bs q2 W T cs ds l4)) (Qc : AExit → ES → Heap → Prop) (E : ES)
    (e0 : get E 0 = .lp 0 0 0 0) (e2 : get E 2 = .lp 0 1 0 0) (e5 : get E 5 = .lp 0 2 0 0) (e6 : get E 6 = .ls 1 3 0 ds.length) (e7 : get E 7 = .ls 1 j 0 l3.length) (e9 : get E 9 = .v (.int .i64 k)) (e81 : get E 81 = .lp 0 0 0 0) :
    awp Tryz.prog md5 c_playB (ablock 1 (athen (awp Tryz.prog md5 c_playI (loopQ [(6, 1), (7, 1)] [0, 2, 5, 6, 7, 9, 81] J m Qc)) (loopQ [(6, 1), (7, 1)] [0, 2, 5, 6, 7, 9, 81] J m Qc))) E (playH bs q W T cs ds l2 ++ X) := by
  have hl2 := lays_len hy2
  have hl3 := lays_len hy3
  have h36 := regB_len hr
  have en := hend (q + 1) l3 (by omega) hy3
  simp only [playH, playE, Int.natCast_add, Int.natCast_one] at en
  rcases hX with ⟨rfl, rfl, rfl⟩ | ⟨l, rfl, rfl, rfl⟩ | ⟨rfl, rfl⟩ <;>
  · simp [c_playB, e0, e2, e5, e6, e7, e9, e81]
    refine call_onK (s_spec_l20Rd_pick bs q 6 hb hB (by omega)) [0] (by simp) (by simp) (by simp) ?_
    rintro _ _ ⟨x, x0, x1, rfl, rfl⟩
    by_cases cx : x = 0
    · simp [cx, get_purgeE, e0, e2, e5, e6, e7, e9, e81]
      (repeat' first | omega | apply And.intro) <;>
      · refine call_onK (s_spec_l20Rd_pick bs (q + 1) 4 hb hB (by omega)) [0] (by simp) (by simp) (by simp) ?_
        rintro _ _ ⟨y, y0, y1, rfl, rfl⟩
        have hl1 : (layOneL W T cs l3 k (1 + y)).length = l3.length := layOneL_length
        have em := hend (q + 1 + 1) (layOneL W T cs l3 k (1 + y)) (by omega) (tried_lays hr hy3)
        simp only [playH, playE, hl1, Int.natCast_add, Int.natCast_one] at em
        simp [get_purgeE, e0, e2, e5, e6, e7, e9, e81]
        (repeat' first | omega | apply And.intro) <;>
        · refine call_on (s_spec_LayOne W T cs l3 k (1 + y) hr hy3) ?_
          cases hf : freeB W T cs l3 k (1 + y) with
          | false =>
            have e : layOneL W T cs l3 k (1 + y) = l3 := by simp [layOneL, hf]
            rw [e] at em
            simp [get_purgeE, e0, e2, e5, e6, e7, e9, e81, hl1, e, c_playI]
            exact ⟨by omega, em⟩
          | true =>
            simp [get_purgeE, e0, e2, e5, e6, e7, e9, e81, hl1, c_playI]
            exact ⟨by omega, em⟩
    · simp [cx, get_purgeE, e0, e2, e5, e6, e7, e9, e81, c_playI]
      exact ⟨by omega, en⟩

set_option maxHeartbeats 4000000 in
theorem play_L0 (bs : List Int) (p q : Nat) (W T : Int) (cs : List Bool) (ds ls : List Int) (hb : bs.length ≤ 2000) (hB : Byt bs) (hp : p < 2 ^ 34) (hcs : cs.length ≤ 37) (hq : q ≤ p + 700) (hv : (regB W T cs = true ∧ laysB W T cs ls = true) ∨ ls = []) (Qc : AExit → ES → Heap → Prop)
    (hend : ∀ (q2 : Nat) (ls2 : List Int), q2 ≤ p + 900 → ls2.length = ls.length → Qc (.exit 0) ([(43, .v (.bool false)), (42, .v (.int .i64 ls2.length)), (41, .ls 1 4 0 ls2.length), (40, .v (.int .i64 ls2.length))] ++ playE ds ls2 ls2.length) (playH bs q2 W T cs ds ls2)) :
    loopNode [(6, 1), (7, 1)] [0, 2, 5, 6, 7, 9, 81] (awp Tryz.prog md5 c_spec_l20Played_L0) Qc (playE ds ls 0) (playH bs q W T cs ds ls) := by
  rcases hv with ⟨hr, hy⟩ | rfl
  case inr =>
    refine loop_by (fun m E H => m = 0 ∧ E = playE ds [] 0 ∧ H = playH bs q W T cs ds []) 0 ⟨rfl, rfl, rfl⟩ ?_
    rintro J hJ m E H ⟨rfl, rfl, rfl⟩
    simp [c_spec_l20Played_L0]
    have := hend q [] (by omega) rfl
    simpa using this
  have hlen0 := lays_len hy
  have h36 := regB_len hr
  refine loop_by (fun m E H => ∃ (k q2 : Nat) (l2 : List Int), m = cs.length - k ∧ k ≤ cs.length ∧ q2 ≤ q + 3 * k ∧ laysB W T cs l2 = true ∧ E = playE ds l2 k ∧ H = playH bs q2 W T cs ds l2) cs.length ⟨0, q, ls, rfl, by omega, by omega, hy, rfl, rfl⟩ ?_
  rintro J hJ m E H ⟨k, q2, l2, rfl, hk', hq2, hy2, rfl, rfl⟩
  have hlen := lays_len hy2
  by_cases hk : k < cs.length
  case neg =>
    have : k = l2.length := by omega
    subst this
    simp [c_spec_l20Played_L0]
    have := hend q2 l2 (by omega) (by omega)
    simpa using this
  have hkl : k < l2.length := by omega
  have nx : ∀ (q3 : Nat) (l4 : List Int), q3 ≤ q2 + 1 + 2 → laysB W T cs l4 = true → again J (cs.length - k) (playE ds l4 (k + 1)) (playH bs q3 W T cs ds l4) :=
    fun q3 l4 h1 h2 => ⟨_, by omega, hJ _ _ _ ⟨k + 1, q3, l4, rfl, hk, by omega, h2, by simp, rfl⟩⟩
  rw [play_parts]
  simp [c_playC, c_playA, hkl]
  refine call_onK (s_spec_l20Rd_pick bs q2 4 hb hB (by omega)) [0] (by simp) (by simp) (by simp) ?_
  rintro _ _ ⟨x, x0, x1, rfl, rfl⟩
  by_cases cx : x = 0
  · simp [cx]
    refine call_on (s_spec_LiftOne W T cs l2 k hr hy2 hkl) ?_
    by_cases hz : ati l2 k = 0
    · rw [if_pos hz]
      simp
      exact play_half bs (q2 + 1) k _ W T cs ds l2 l2 hb hB (by omega) hr hy2 hy2 hk 4 [some (.arr 1 (ints l2))] (.inr (.inl ⟨l2, rfl, rfl, rfl⟩)) J nx _ _ rfl rfl rfl rfl rfl rfl rfl
    · rw [if_neg hz]
      have hl := liftI_length W T l2 k
      simp
      exact play_half bs (q2 + 1) k _ W T cs ds l2 (liftI W T l2 k) hb hB (by omega) hr hy2 (lift_ok hr hy2 hkl hz) hk 6 [some (.arr 1 (ints (liftI W T l2 k)))] (.inr (.inr ⟨rfl, rfl⟩)) J nx _ _ rfl rfl rfl rfl rfl rfl rfl
  · simp [cx]
    exact play_half bs (q2 + 1) k _ W T cs ds l2 l2 hb hB (by omega) hr hy2 hy2 hk 4 [] (.inl ⟨rfl, rfl, rfl⟩) J nx _ _ rfl rfl rfl rfl rfl rfl rfl

end Go.Proofs.Dev

namespace Go.Proofs.Dev
set_option linter.unusedSimpArgs false
set_option maxRecDepth 100000

def c_playT : ACode :=
  .seq (.seq (.reg [⟨(some 73), .mv, [.t 0], none⟩,
    ⟨(some 74), .call 56 [], [.t 73, .c (.v (.int .i64 (14)))], none⟩]) <|
  .cond (.t 74) (
    .reg [⟨(some 75), .mv, [.t 7], none⟩,
      ⟨(some 76), .bsl 1, [.c (.v (.int .i64 (0)))], none⟩,
      ⟨(some 77), .app 1 8 true, [.t 75, .t 76], none⟩,
      ⟨(some 7), .mv, [.t 77], none⟩]) (
    .skip)) <|
  .seq (.reg [⟨(some 78), .load true 3, [.t 5], none⟩,
    ⟨(some 79), .mv, [.t 6], none⟩,
    ⟨(some 80), .mv, [.t 7], none⟩,
    ⟨none, .store 3, [.t 2, .t 78], none⟩,
    ⟨(some 3), .mv, [.t 79], none⟩,
    ⟨(some 4), .mv, [.t 80], none⟩]) <|
  .ret

theorem play_rest (bs : List Int) (p q : Nat) (W T : Int) (cs : List Bool) (ds ls : List Int) (hb : bs.length ≤ 2000) (hB : Byt bs) (hp : p < 2 ^ 33) (hcs : cs.length ≤ 37) (hds : ds.length ≤ 37) (hls : ls.length ≤ 37) (hq : q ≤ p + 700) (hv : (regB W T cs = true ∧ laysB W T cs ls = true) ∨ ls = []) :
    loopNode [(6, 1), (7, 1)] [0, 2, 5, 6, 7, 9, 81] (awp Tryz.prog md5 c_spec_l20Played_L0)
      (ablock 0 (athen (awp Tryz.prog md5 c_playT (FinS [RV.c 2 true 3, RV.t 3, RV.t 4] 81 1 [true] (playSet bs p 1000))) (FinS [RV.c 2 true 3, RV.t 3, RV.t 4] 81 1 [true] (playSet bs p 1000))))
      (playE ds ls 0) (playH bs q W T cs ds ls) := by
  refine play_L0 bs p q W T cs ds ls hb hB (by omega) hcs hq hv _ ?_
  intro q2 ls2 h2 hl2
  simp [c_playT]
  refine call_onK (s_spec_l20Rd_odd bs q2 14 hb hB (by omega) (by omega)) [0] (by simp) (by simp) (by simp) ?_
  rintro _ _ ⟨b, q3, rfl, hq3, rfl⟩
  cases b with
  | false =>
    simp
    refine ⟨_, _, ⟨W, T, cs, ds, ls2, q3, rfl, hcs, hds, by omega, by omega, rfl⟩, ?_⟩
    simp [regA]
  | true =>
    have e : ints ls2 ++ [.v (.int .i64 0)] = ints (ls2 ++ [0]) := by rw [ints_append]; rfl
    simp [e]
    refine ⟨by omega, ?_⟩
    refine ⟨_, _, ⟨W, T, cs, ds, ls2 ++ [0], q3, rfl, hcs, hds, by simp; omega, by omega, rfl⟩, ?_⟩
    have htk : (ints (ls2 ++ [0])).take (ls2.length + 1) = ints (ls2 ++ [0]) := List.take_of_length_le (by simp)
    simp [regA, htk]

theorem s_spec_l20Played (bs : List Int) (p : Nat) (hb : bs.length ≤ 2000) (hB : Byt bs) (hp : p < 2 ^ 33) :
    SoundSet Tryz.prog n_spec_l20Played [rdA bs p] (playSet bs p 1000) := by
  refine fn_okS (md := md5) (ms := [true]) k_spec_l20Played (by simp) ?_
  simp [c_spec_l20Played]
  refine call_onK (s_spec_l20Puzzle bs p 9 hb hB (by omega) (by omega) (by omega)) [0] (by simp) (by simp) (by simp) ?_
  rintro _ _ ⟨W, T, cs, ds, q, rfl, hcs, hds, hq, rfl⟩
  simp [regA]
  refine call_on (s_spec_LaidBare W T cs (by omega)) ?_
  obtain ⟨ls0, h0, hls0, hv0⟩ : ∃ ls0, (if regB W T cs = true then noneL cs else []) = ls0 ∧ ls0.length ≤ 37 ∧ ((regB W T cs = true ∧ laysB W T cs ls0 = true) ∨ ls0 = []) := by
    by_cases hr : regB W T cs = true
    · exact ⟨noneL cs, by rw [if_pos hr], by simp [noneL]; omega, .inl ⟨hr, lays_none W T cs⟩⟩
    · exact ⟨[], by rw [if_neg hr], by simp, .inr rfl⟩
  rw [h0]
  simp
  refine call_onK (s_spec_l20Rd_pick bs q 2 hb hB (by omega)) [0] (by simp) (by simp) (by simp) ?_
  rintro _ _ ⟨x, x0, x1, rfl, rfl⟩
  by_cases cx : x = 0
  · simp [cx]
    refine call_on (s_spec_SolutionsAllF W T cs ds (by omega) (by omega)) ?_
    by_cases hs : 0 < (solsI W T cs ds).length
    · simp [hs]
      refine call_onK (s_spec_l20Rd_pick bs (q + 1) (if (200 : Int) < (solsI W T cs ds).length then 200 else ((solsI W T cs ds).length : Int)) hb hB (by omega)) [0] (by simp) (by simp) (by simp) ?_
      rintro _ _ ⟨y, y0, y1, rfl, rfl⟩
      have y2 : y < (solsI W T cs ds).length := by
        split at y1 <;> omega
      obtain ⟨i, rfl⟩ : ∃ i : Nat, y = i := ⟨y.toNat, by omega⟩
      have hm := pti_mem (ps := solsI W T cs ds) (i := i) (by omega)
      obtain ⟨hf, _⟩ := solved_parts (mem_sols.1 hm)
      obtain ⟨hr, _, hy, _⟩ := fair_parts hf
      have hyl := lays_len hy
      simp [y2]
      refine ⟨by omega, ?_⟩
      exact play_rest bs p (q + 1 + 1) W T cs ds (pti (solsI W T cs ds) i) hb hB hp hcs hds (by omega) (by omega) (.inl ⟨hr, hy⟩)
    · simp [hs]
      exact play_rest bs p (q + 1) W T cs ds ls0 hb hB hp hcs hds hls0 (by omega) hv0
  · simp [cx]
    exact play_rest bs p (q + 1) W T cs ds ls0 hb hB hp hcs hds hls0 (by omega) hv0

end Go.Proofs.Dev
