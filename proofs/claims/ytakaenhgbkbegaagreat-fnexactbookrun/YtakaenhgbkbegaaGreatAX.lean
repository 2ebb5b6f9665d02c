/- Contracts of the functions of the program over slots and rows, each proved against the program itself; no condition beyond those that each theorem names. -/
import Derived.Test.YtakaenhgbkbegaaGreatAI
import Derived.Test.YtakaenhgbkbegaaGreatAS
import Derived.Test.YtakaenhgbkbegaaGreatProg
import Derived.Test.YtakaenhgbkbegaaGreatAW

set_option linter.unusedSimpArgs false
set_option linter.unusedVariables false

namespace Go.Proofs.Dev
set_option maxRecDepth 100000

-- 2 parameters, results [.t 4], 119 slots, modes [false, false]
@[simp] abbrev n_laws_FnExactBookRun : Nat := 7
def c_laws_FnExactBookRun_T0 : ACode := .seq (.seq (.reg [.m 59 9, .m 60 1, .o 61 (.call 39 []) [.t 60], .o 62 (.call 41 []) [.t 59, .t 61],
 .o 63 (.un .not) [.t 62]]) <| .cond (.t 63) ( .seq (.reg [.o 4 .mv [.kb false]]) <| .ret) ( .skip)) <| .seq (.reg [.o 12 .mv [.k 1]]) <| .seq (.reg [.la 64 6 8,
 .m 65 12, .o 66 (.call 31 []) [.t 64, .t 65], .m 12 66]) <| .seq (.reg [.m 67 9, .m 68 12, .o 69 (.call 42 []) [.t 67, .t 68], .m 12 69]) <|
 .seq (.seq (.reg [.m 70 12, .o 71 (.bin .lss 0) [.t 70, .k 0], .m 72 71, .g 73 (.load true 6) [.t 10] 72 false, .g 74 (.load true 6) [.t 6] 72 false,
 .g 75 (.call 30 []) [.t 73, .t 74] 72 false, .g 76 (.un .not) [.t 75] 72 false, .o 77 .pick [.t 72, .kb true, .t 76], .m 78 77, .mg 79 11 78 false,
 .mg 80 7 78 false, .g 81 (.bin .neq 0) [.t 79, .t 80] 78 false, .o 82 .pick [.t 78, .kb true, .t 81]]) <| .cond (.t 82) ( .seq (.reg [.o 4 .mv [.kb false]]) <|
 .ret) ( .skip)) <| .seq (.reg [.o 13 .mv [.k 1]]) <| .seq (.reg [.la 83 6 10, .m 84 13, .o 85 (.call 31 []) [.t 83, .t 84], .m 13 85]) <|
 .seq (.reg [.o 14 .mv [.k 1]]) <| .seq (.reg [.la 86 6 10, .m 87 14, .o 88 (.call 32 []) [.t 86, .t 87], .m 14 88]) <| .seq (.seq (.reg [.m 89 14,
 .o 90 (.bin .lss 0) [.t 89, .k 0]]) <| .cond (.t 90) ( .seq (.reg [.o 4 .mv [.kb false]]) <| .ret) ( .skip)) <| .seq (.seq (.reg [.m 91 14, .m 92 13,
 .o 93 (.bin .neq 0) [.t 91, .t 92]]) <| .cond (.t 93) ( .seq (.reg [.o 4 .mv [.kb false]]) <| .ret) ( .skip)) <| .seq (.reg [.la 95 6 2,
 .o 96 (.call 28 []) [.t 95], .m 97 1, .o 98 (.call 39 []) [.t 97], .o 99 (.call 40 []) [.t 96, .t 98], .m 94 99, .e 100 0 94, .e 101 1 94, .o 15 (.alloc bz) [],
 .s (.store 6) [.t 15, .t 100], .m 16 101]) <| .seq (.seq (.reg [.la 102 6 15, .la 103 6 6, .o 104 (.call 30 []) [.t 102, .t 103], .o 105 (.un .not) [.t 104],
 .m 106 105, .mg 107 16 106 false, .mg 108 7 106 false, .g 109 (.bin .neq 0) [.t 107, .t 108] 106 false, .o 110 .pick [.t 106, .kb true, .t 109]]) <|
 .cond (.t 110) ( .seq (.reg [.o 4 .mv [.kb false]]) <| .ret) ( .skip)) <| .seq (.reg [.o 14 .mv [.k 1]]) <| .seq (.reg [.la 111 6 10, .m 112 14,
 .o 113 (.call 32 []) [.t 111, .t 112], .m 14 113]) <| .seq (.seq (.reg [.m 114 14, .o 115 (.bin .lss 0) [.t 114, .k 0]]) <|
 .cond (.t 115) ( .seq (.reg [.o 4 .mv [.kb false]]) <| .ret) ( .skip)) <| .seq (.seq (.reg [.m 116 14, .m 117 13, .o 118 (.bin .neq 0) [.t 116, .t 117]]) <|
 .cond (.t 118) ( .seq (.reg [.o 4 .mv [.kb false]]) <| .ret) ( .skip)) <| .seq (.reg [.o 4 .mv [.kb true]]) <| .ret

abbrev c_laws_FnExactBookRun_p0 : Plan := .al (.o 57 (.call 30 []) [.t 54, .t 56]) ( .take (.o 58 (.un .not) [.t 57]) <| .done)
def c_laws_FnExactBookRun : ACode := .seq (.reg [.o 2 .box [.t 0], .o 4 .mv [.kb false]]) <| .seq (.reg [.o 5 .mv [.k 1048576]]) <| .seq (.reg [.la 17 6 2,
 .m 18 5, .o 19 (.call 26 []) [.t 17, .t 18], .m 5 19]) <| .seq (.seq (.reg [.m 20 5, .o 21 (.bin .lss 0) [.t 20, .k 0]]) <|
 .cond (.t 21) ( .seq (.reg [.o 4 .mv [.kb true]]) <| .ret) ( .skip)) <| .seq (.reg [.m 22 1, .m 23 5, .o 24 (.call 37 []) [.t 22, .t 23], .m 5 24]) <|
 .seq (.seq (.reg [.m 25 5, .o 26 (.bin .lss 0) [.t 25, .k 0]]) <| .cond (.t 26) ( .seq (.reg [.o 4 .mv [.kb true]]) <| .ret) ( .skip)) <|
 .seq (.reg [.la 28 6 2, .o 29 (.call 28 []) [.t 28], .m 30 1, .o 31 (.call 39 []) [.t 30], .o 32 (.call 38 []) [.t 29, .t 31], .m 27 32, .e 33 0 27, .e 34 1 27,
 .o 6 (.alloc bz) [], .s (.store 6) [.t 6, .t 33], .m 7 34]) <| .seq (.reg [.la 35 6 2, .o 36 (.call 28 []) [.t 35], .o 8 (.alloc bz) [], .s (.store 6) [.t 8,
 .t 36]]) <| .seq (.reg [.m 37 1, .o 38 (.call 39 []) [.t 37], .m 9 38]) <| .seq (.reg [.la 40 6 8, .m 41 9, .o 42 (.call 40 []) [.t 40, .t 41], .m 39 42,
 .e 43 0 39, .e 44 1 39, .o 10 (.alloc bz) [], .s (.store 6) [.t 10, .t 43], .m 11 44]) <| .seq (.seq (.reg [.la 45 6 10, .la 46 6 6, .o 47 (.call 30 []) [.t 45,
 .t 46], .o 48 (.un .not) [.t 47], .m 49 48, .mg 50 11 49 false, .mg 51 7 49 false, .g 52 (.bin .neq 0) [.t 50, .t 51] 49 false, .o 53 .pick [.t 49, .kb true,
 .t 52]]) <| .cond (.t 53) ( .seq (.reg [.o 4 .mv [.kb false]]) <| .ret) ( .skip)) <|
 .seq (.seq (.draw ( .alt (.la 54 6 8) ( .al (.la 55 6 2) ( .al (.o 56 (.call 28 []) [.t 55]) c_laws_FnExactBookRun_p0)) <|
 .al (.la 55 6 2) ( .alt (.la 54 6 8) ( .al (.o 56 (.call 28 []) [.t 55]) c_laws_FnExactBookRun_p0) <| .al (.o 56 (.call 28 []) [.t 55]) ( .al (.la 54 6 8) c_laws_FnExactBookRun_p0)))) <|
 .cond (.t 58) ( .seq (.reg [.o 4 .mv [.kb false]]) <| .ret) ( .skip)) <| .gc [] [1, 2, 6, 7, 8, 9, 10, 11] c_laws_FnExactBookRun_T0

theorem k_laws_FnExactBookRun : cFn Tryz.prog n_laws_FnExactBookRun 119 [.t 4] c_laws_FnExactBookRun := ⟨Tryz.f7, _, Tryz.func7, rfl, by kernel_rfl, by kernel_rfl, by kernel_rfl, by kernel_rfl⟩


end Go.Proofs.Dev

namespace Go.Proofs.Dev
set_option linter.unusedSimpArgs false
set_option maxRecDepth 100000

theorem s_laws_szDeedS (xs : List (Int × Int × Int)) (left : Int) (h0 : 0 ≤ left) (h1 : left < 2 ^ 60) (hx : xs.length ≤ 9223372036854775807) :
    SoundAt Tryz.prog n_laws_szDeedS [.sl 1 3 (dsA xs), .v (.int .i64 left)] (.v (.int .i64 (lessI left xs.length))) [.bot, .bot] := by
  refine fn_ok (md := md3) (ms := [false, false]) k_laws_szDeedS (by simp) ?_
  by_cases h : left < xs.length
  · have h2 : left - (xs.length : Int) < 0 := by omega
    simp [c_laws_szDeedS, lessI, h, h2]
    omega
  · have h2 : ¬ left - (xs.length : Int) < 0 := by omega
    simp [c_laws_szDeedS, lessI, h, h2]
    omega

theorem s_laws_toDeedS (xs : List (Int × Int × Int)) (hx : xs.length < 2 ^ 40) :
    SoundAt Tryz.prog n_laws_toDeedS [.sl 1 3 (dsA xs)] (.os 3 (dsA xs)) [.bot] := by
  refine fn_ok (md := md3) (ms := [false]) k_laws_toDeedS (by simp) ?_
  have er : List.replicate xs.length (AV.agg [.v (.int .i64 0), .v (.int .i64 0), .v (.int .i64 0)]) = dsA (List.replicate xs.length (0, 0, 0)) := by simp [dsA, deedA]
  simp [c_laws_toDeedS, er]
  refine ⟨by omega, ?_⟩
  refine loop_by (fun m E H => ∃ i : Nat, m = xs.length - i ∧ i ≤ xs.length ∧ H = [some (.arr 3 (dsA (xs.take i ++ List.replicate (xs.length - i) (0, 0, 0))))] ∧ E = [(0, .sl 1 3 (dsA xs)), (3, .ls 3 0 0 xs.length), (4, .v (.int .i64 i))]) xs.length ⟨0, by simp⟩ ?_
  rintro J hJ m E H ⟨i, rfl, hi, rfl, rfl⟩
  have hlen : (xs.take i ++ List.replicate (xs.length - i) ((0 : Int), (0 : Int), (0 : Int))).length = xs.length := by simp; omega
  by_cases h : i < xs.length
  · have td := s_laws_toDeed xs[i].1 xs[i].2.1 xs[i].2.2
    have st : (xs.take i ++ List.replicate (xs.length - i) ((0 : Int), (0 : Int), (0 : Int))).set i xs[i] = xs.take (i + 1) ++ List.replicate (xs.length - (i + 1)) (0, 0, 0) := by
      have := set_half xs (0, 0, 0) (0, 0, 0) i h
      have hd : xs.getD i (0, 0, 0) = xs[i] := by simp [h]
      rw [hd] at this
      exact this
    generalize xs.take i ++ List.replicate (xs.length - i) ((0 : Int), (0 : Int), (0 : Int)) = ys at *
    simp [c_laws_toDeedS_L0, h, aiadr_ds, deedC]
    refine call_on td ?_
    simp [hlen, h, dsA_set', st]
    exact ⟨by omega, _, by omega, hJ _ _ _ ⟨i + 1, rfl, h, rfl, rfl⟩⟩
  · have : i = xs.length := by omega
    subst this
    simp [c_laws_toDeedS_L0]
    exact List.take_of_length_le (by simp)

theorem vwL_ds5 (xs : List (Int × Int × Int)) : vwL 1 (dsA xs) = dsA xs := by
  induction xs with
  | nil => rfl
  | cons x xs ih =>
    show vwL 1 (deedA x :: dsA xs) = deedA x :: dsA xs
    simp only [vwL, ih, deedA, vw]

set_option maxHeartbeats 4000000 in
theorem br2_T0 (W T : Int) (cs : List Bool) (ds ls : List Int) (ps : List (List Int)) (xs : List (Int × Int × Int)) (W2 T2 : Int) (cs2 : List Bool) (ds2 ls2 : List Int) (ps2 : List (List Int)) (n2 : Int) (hc : cs.length < 2 ^ 21) (hd : ds.length < 2 ^ 21) (hl : ls.length < 2 ^ 21) (hs : sumL ps < 2 ^ 50) (hb : ps.length < 2 ^ 40) (hp : ∀ p ∈ ps, p.length < 2 ^ 40)
    (hx : xs.length ≤ 1048576) (hc2 : cs2.length ≤ 40) (hd2 : ds2.length ≤ 40) (hl2 : ls2.length ≤ 40) (hb2 : ps2.length ≤ 40) (hp2 : ∀ p ∈ ps2, p.length ≤ 40) (hs2 : sumL ps2 < 2 ^ 50) (h3 : ¬ (1048576 : Int) < totB cs ds ls ps) (h4 : ¬ lessI 1048576 (totB cs ds ls ps) < xs.length)
    (sp : SoundAt Tryz.prog n_spec_BookRun [bkA W T cs ds ls ps, .sl 1 3 (dsA xs)] (.tup [bkO W2 T2 cs2 ds2 ls2 ps2, .v (.int .i64 n2)]) [.bot, .bot])
    (im : SoundAt Tryz.prog n_impl_BookRun [bkA W T cs ds ls ps, .sl 1 3 (dsA xs)] (.tup [bkO W2 T2 cs2 ds2 ls2 ps2, .v (.int .i64 n2)]) [.bot, .bot]) :
    awp Tryz.prog md3 c_laws_FnExactBookRun_T0 (Fin [RV.t 4] 119 2 [false, false] (.v (.bool true)) [.bot, .bot])
      [(1, .sl 1 3 (dsA xs)), (2, .lp 0 0 0 0), (6, .lp 0 1 0 0), (7, .v (.int .i64 n2)), (8, .lp 0 2 0 0), (9, .ls 3 3 0 xs.length), (10, .lp 0 4 0 0), (11, .v (.int .i64 n2))]
      [some (.box [.v (.int .i64 W), .v (.int .i64 T), .sl 1 1 (bools cs), .sl 1 1 (ints ds), .sl 1 1 (ints ls), .sl 1 1 (sls 1 ps)]), some (.box (bkcs 5 W2 T2 cs2 ds2 ls2 ps2)), some (.box (bkcs 9 W T cs ds ls ps)), some (.arr 3 (dsA xs)), some (.box (bkcs 13 W2 T2 cs2 ds2 ls2 ps2)),
        some (.arr 1 (bools cs2)), some (.arr 1 (ints ds2)), some (.arr 1 (ints ls2)), some (.arr 1 (oss ps2)), some (.arr 1 (bools cs)), some (.arr 1 (ints ds)), some (.arr 1 (ints ls)), some (.arr 1 (oss ps)),
        some (.arr 1 (bools cs2)), some (.arr 1 (ints ds2)), some (.arr 1 (ints ls2)), some (.arr 1 (oss ps2))] := by
  have hp2' : ∀ p ∈ ps2, p.length < 2 ^ 40 := fun p h => by have := hp2 p h; omega
  have tob := s_laws_toBook W T cs ds ls ps (by omega) (by omega) (by omega) (by omega) hp
  have tod := s_laws_toDeedS xs (by omega)
  have eqd := s_laws_eqDeedS xs xs (by omega)
  have mkd := fun k h0 h1 => s_laws_markDeedS xs k h0 h1 (by omega)
  have eqb := s_laws_eqBook W T cs ds ls ps (by omega) (by omega) (by omega) (by omega) hp
  have eqb2 := s_laws_eqBook W2 T2 cs2 ds2 ls2 ps2 (by omega) (by omega) (by omega) (by omega) hp2'
  have mk := s_laws_markBook W T cs ds ls ps 1 (by omega) (by omega) hc hd hl hs hb hp
  have mk2 := s_laws_markBook W2 T2 cs2 ds2 ls2 ps2 1 (by omega) (by omega) (by omega) (by omega) (by omega) hs2 (by omega) hp2'
  have held := s_laws_heldBook W2 T2 cs2 ds2 ls2 ps2 1 (by omega) (by omega) (by omega) (by omega) (by omega) hs2 (by omega) hp2'
  have he : sumL ps ≤ 1048576 := by unfold totB at h3; omega
  have hk0 : 0 ≤ endM 1 cs ds ls ps ∧ endM 1 cs ds ls ps < 2 ^ 40 := by unfold endM; omega
  have mkd1 := mkd (endM 1 cs ds ls ps) hk0.1 hk0.2
  have hk : ¬ endM 1 cs ds ls ps + 3 * (xs.length : Int) < 0 := by omega
  have hk2 : ¬ endM 1 cs2 ds2 ls2 ps2 < 0 := by unfold endM; omega
  have tkx : (dsA xs).take xs.length = dsA xs := List.take_of_length_le (by simp)
  have vx := vwL_ds5 xs
  simp [c_laws_FnExactBookRun_T0, tkx, vx]
  refine call_on tod ?_
  simp [tkx, vx]
  refine call_on eqd ?_
  simp [tkx, vx]
  refine call_on mk ?_
  simp [tkx, vx]
  refine call_on mkd1 ?_
  simp [hk]
  refine call_on eqb2 ?_
  simp
  refine call_on mk2 ?_
  simp
  refine call_on held ?_
  simp [hk2, vx]
  refine call_on tob ?_
  simp [vx]
  refine call_on tod ?_
  simp [tkx, vx]
  refine call_on im ?_
  simp [tkx, vx]
  refine call_on eqb2 ?_
  simp
  refine call_on held ?_
  simp [hk2]

set_option maxHeartbeats 4000000 in
theorem t_FnExactBookRun (W T : Int) (cs : List Bool) (ds ls : List Int) (ps : List (List Int)) (xs : List (Int × Int × Int)) (W2 T2 : Int) (cs2 : List Bool) (ds2 ls2 : List Int) (ps2 : List (List Int)) (n2 : Int) (hc : cs.length < 2 ^ 21) (hd : ds.length < 2 ^ 21) (hl : ls.length < 2 ^ 21) (hs : sumL ps < 2 ^ 50) (hb : ps.length < 2 ^ 40) (hp : ∀ p ∈ ps, p.length < 2 ^ 40)
    (hx : xs.length ≤ 1048576) (hc2 : cs2.length ≤ 40) (hd2 : ds2.length ≤ 40) (hl2 : ls2.length ≤ 40) (hb2 : ps2.length ≤ 40) (hp2 : ∀ p ∈ ps2, p.length ≤ 40) (hs2 : sumL ps2 < 2 ^ 50) (h3 : ¬ (1048576 : Int) < totB cs ds ls ps) (h4 : ¬ lessI 1048576 (totB cs ds ls ps) < xs.length)
    (sp : SoundAt Tryz.prog n_spec_BookRun [bkA W T cs ds ls ps, .sl 1 3 (dsA xs)] (.tup [bkO W2 T2 cs2 ds2 ls2 ps2, .v (.int .i64 n2)]) [.bot, .bot])
    (im : SoundAt Tryz.prog n_impl_BookRun [bkA W T cs ds ls ps, .sl 1 3 (dsA xs)] (.tup [bkO W2 T2 cs2 ds2 ls2 ps2, .v (.int .i64 n2)]) [.bot, .bot]) :
    SoundAt Tryz.prog n_laws_FnExactBookRun [bkA W T cs ds ls ps, .sl 1 3 (dsA xs)] (.v (.bool true)) [.bot, .bot] := by
  have hp2' : ∀ p ∈ ps2, p.length < 2 ^ 40 := fun p h => by have := hp2 p h; omega
  have tob := s_laws_toBook W T cs ds ls ps (by omega) (by omega) (by omega) (by omega) hp
  have tod := s_laws_toDeedS xs (by omega)
  have eqd := s_laws_eqDeedS xs xs (by omega)
  have mkd := fun k h0 h1 => s_laws_markDeedS xs k h0 h1 (by omega)
  have eqb := s_laws_eqBook W T cs ds ls ps (by omega) (by omega) (by omega) (by omega) hp
  have eqb2 := s_laws_eqBook W2 T2 cs2 ds2 ls2 ps2 (by omega) (by omega) (by omega) (by omega) hp2'
  have mk := s_laws_markBook W T cs ds ls ps 1 (by omega) (by omega) hc hd hl hs hb hp
  have mk2 := s_laws_markBook W2 T2 cs2 ds2 ls2 ps2 1 (by omega) (by omega) (by omega) (by omega) (by omega) hs2 (by omega) hp2'
  have held := s_laws_heldBook W2 T2 cs2 ds2 ls2 ps2 1 (by omega) (by omega) (by omega) (by omega) (by omega) hs2 (by omega) hp2'
  have he : sumL ps ≤ 1048576 := by unfold totB at h3; omega
  have hk0 : 0 ≤ endM 1 cs ds ls ps ∧ endM 1 cs ds ls ps < 2 ^ 40 := by unfold endM; omega
  have mkd1 := mkd (endM 1 cs ds ls ps) hk0.1 hk0.2
  have hk : ¬ endM 1 cs ds ls ps + 3 * (xs.length : Int) < 0 := by omega
  have hk2 : ¬ endM 1 cs2 ds2 ls2 ps2 < 0 := by unfold endM; omega
  have tkx : (dsA xs).take xs.length = dsA xs := List.take_of_length_le (by simp)
  have vx := vwL_ds5 xs
  refine fn_ok (md := md3) (ms := [false, false]) k_laws_FnExactBookRun (by simp) ?_
  simp [c_laws_FnExactBookRun]
  refine call_on (s_laws_szBook W T cs ds ls ps 1048576 (by omega) (by omega) (by omega) (by omega) (by omega) (by omega) (fun p h => by have := hp p h; omega)) ?_
  have hn : ¬ lessI 1048576 (totB cs ds ls ps) < 0 := by unfold lessI; split <;> omega
  simp [hn]
  refine call_on (s_laws_szDeedS xs (lessI 1048576 (totB cs ds ls ps)) (by omega) (by unfold lessI; split <;> omega) (by omega)) ?_
  have hn2 : ¬ lessI (lessI 1048576 (totB cs ds ls ps)) xs.length < 0 := by
    generalize lessI 1048576 (totB cs ds ls ps) = q at *
    unfold lessI; split <;> omega
  simp [hn2, vx]
  refine call_on tob ?_
  simp [vx]
  refine call_on tod ?_
  simp [tkx, vx]
  refine call_on sp ?_
  simp [tkx, vx]
  refine call_on tob ?_
  simp [vx]
  refine call_on tod ?_
  simp [tkx, vx]
  refine call_on im ?_
  simp [tkx, vx]
  refine call_on eqb2 ?_
  simp
  have fin := br2_T0 W T cs ds ls ps xs W2 T2 cs2 ds2 ls2 ps2 n2 hc hd hl hs hb hp hx hc2 hd2 hl2 hb2 hp2 hs2 h3 h4 sp im
  simp only [bkcs] at fin
  repeat' (first | exact fin | apply And.intro | (refine call_on tob ?_; simp) | (refine call_on eqb ?_; simp))
end Go.Proofs.Dev

namespace Go.Proofs.Dev
set_option linter.unusedSimpArgs false
set_option maxRecDepth 100000

theorem s_FnExactBookRun (W T : Int) (cs : List Bool) (ds ls : List Int) (ps : List (List Int)) (xs : List (Int × Int × Int)) (hc : cs.length ≤ 9223372036854775807) (hd : ds.length ≤ 9223372036854775807) (hl : ls.length ≤ 9223372036854775807) (hb : ps.length ≤ 9223372036854775807) (hp : ∀ p ∈ ps, p.length ≤ 9223372036854775807) (hx : xs.length ≤ 9223372036854775807) (hs : ∀ d ∈ xs, d.2.1 ≤ 9223372036854775807) :
    SoundAt Tryz.prog n_laws_FnExactBookRun [bkA W T cs ds ls ps, .sl 1 3 (dsA xs)] (.v (.bool true)) [.bot, .bot] := by
  have vx := vwL_ds5 xs
  by_cases h3 : (1048576 : Int) < totB cs ds ls ps
  · refine fn_ok (md := md3) (ms := [false, false]) k_laws_FnExactBookRun (by simp) ?_
    simp [c_laws_FnExactBookRun]
    refine call_on (s_laws_szBook W T cs ds ls ps 1048576 (by omega) (by omega) hc hd hl hb hp) ?_
    simp [lessI, h3]
  have hn : ¬ lessI 1048576 (totB cs ds ls ps) < 0 := by unfold lessI; split <;> omega
  have hn6 : lessI 1048576 (totB cs ds ls ps) ≤ 1048576 := by unfold lessI; split <;> omega
  by_cases h4 : lessI 1048576 (totB cs ds ls ps) < xs.length
  · refine fn_ok (md := md3) (ms := [false, false]) k_laws_FnExactBookRun (by simp) ?_
    simp [c_laws_FnExactBookRun]
    refine call_on (s_laws_szBook W T cs ds ls ps 1048576 (by omega) (by omega) hc hd hl hb hp) ?_
    simp [hn]
    refine call_on (s_laws_szDeedS xs (lessI 1048576 (totB cs ds ls ps)) (by omega) (by omega) hx) ?_
    have hm : lessI (lessI 1048576 (totB cs ds ls ps)) xs.length = -1 := by
      generalize lessI 1048576 (totB cs ds ls ps) = q at *
      unfold lessI; rw [if_pos h4]
    simp [hm, vx]
  obtain ⟨c1, c2, c3, c4, c5⟩ := tot_le (cs := cs) (ds := ds) (ls := ls) (ps := ps) (n := 1048576) (by omega)
  have c5' : ∀ p ∈ ps, p.length < 2 ^ 40 := fun p hp => by have := c5 p hp; omega
  have c30 : ∀ p ∈ ps, p.length ≤ 2 ^ 30 := fun p hp => by have := c5 p hp; omega
  have hsum : sumL ps < 2 ^ 50 := by
    have : totB cs ds ls ps ≤ 1048576 := by omega
    unfold totB at this; omega
  have sp := s_spec_BookRunA W T cs ds ls ps xs (by omega) (by omega) (by omega) (by omega) c30 (by omega)
  have im := s_impl_BookRunA W T cs ds ls ps xs (by omega) (by omega) (by omega) (by omega) c30 (by omega) hs
  cases ok : runOk W T cs ds ls ps xs with
  | false =>
    rw [ok] at sp im
    simp only [Bool.false_eq_true, if_false] at sp im
    exact t_FnExactBookRun W T cs ds ls ps xs 0 0 [] [] [] [] 0 (by omega) (by omega) (by omega) hsum (by omega) c5' (by omega) (by simp) (by simp) (by simp) (by simp) (by simp) (by simp [sumL]) h3 h4 sp im
  | true =>
    rw [ok] at sp im
    simp only [if_true] at sp im
    simp only [runOk, Bool.and_eq_true] at ok
    obtain ⟨hf, h20, hpf⟩ := book_parts (run_ok xs ls ps ok.1)
    have fl := fair_len hf
    have h40 : ∀ p ∈ (runI W T cs ds ls ps xs).2.1, p.length ≤ 40 := fun p h => by have := fair_len (hpf p h); omega
    have sl := sumL_mul 40 _ h40
    exact t_FnExactBookRun W T cs ds ls ps xs W T cs ds _ _ _ (by omega) (by omega) (by omega) hsum (by omega) c5' (by omega) (by omega) (by omega) (by omega) (by omega) h40 (by omega) h3 h4 sp im
end Go.Proofs.Dev
