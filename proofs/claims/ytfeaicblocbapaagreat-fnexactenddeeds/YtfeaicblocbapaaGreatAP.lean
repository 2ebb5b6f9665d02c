/- Contracts of the functions of the program over slots and rows, each proved against the program itself; no condition beyond those that each theorem names. -/
import Derived.Test.YtfeaicblocbapaaGreatAO

set_option linter.unusedSimpArgs false
set_option linter.unusedVariables false

namespace Go.Proofs.Dev
set_option linter.unusedSimpArgs false
set_option maxRecDepth 100000

theorem endI_length (W T : Int) (cs : List Bool) (ds ls : List Int) (ps : List (List Int)) : (endI W T cs ds ls ps).length ≤ 72 := by
  unfold endI
  split
  · rename_i h
    simp only [Bool.and_eq_true] at h
    have e := (end_len h.1 h.2).2.1
    have a := liftsTo_length ls (solL W T cs ds (bareL W T cs)) (solL W T cs ds (bareL W T cs)).length
    have b := laysTo_length ls (solL W T cs ds (bareL W T cs)) (solL W T cs ds (bareL W T cs)).length
    simp only [endT, List.length_append]
    omega
  · simp

@[simp] theorem vwL_ds (xs : List (Int × Int × Int)) : vwL 1 (dsA xs) = dsA xs := by
  induction xs with
  | nil => rfl
  | cons x xs ih =>
    show vwL 1 (deedA x :: dsA xs) = deedA x :: dsA xs
    simp only [vwL, ih, deedA, vw]
@[simp] theorem take_ds (xs : List (Int × Int × Int)) : (dsA xs).take xs.length = dsA xs := List.take_of_length_le (by simp)
@[simp] theorem take_marks3 (n : Nat) (k : Int) : (dsA (marks3 n k)).take n = dsA (marks3 n k) := List.take_of_length_le (by simp)

theorem t_FnExactEndDeeds (W T : Int) (cs : List Bool) (ds ls : List Int) (ps : List (List Int)) (es : List (Int × Int × Int)) (hc : cs.length < 2 ^ 21) (hd : ds.length < 2 ^ 21) (hl : ls.length < 2 ^ 21) (hs : sumL ps < 2 ^ 50) (hb : ps.length < 2 ^ 40) (hp : ∀ p ∈ ps, p.length < 2 ^ 40) (hel : es.length ≤ 72)
    (im : SoundAt Tryz.prog n_impl_EndDeeds [bkA W T cs ds ls ps] (.os 3 (dsA es)) [.bot]) :
    awp Tryz.prog md3 c_laws_FnExactEndDeeds_T0 (Fin [RV.t 2] 69 1 [false] (AV.v (Value.bool true)) [AV.bot])
      [(1, AV.lp 0 0 0 0), (4, AV.ls 3 1 0 es.length), (5, AV.lp 0 2 0 0), (6, AV.ls 3 3 0 es.length)]
      [some (.box [.v (.int .i64 W), .v (.int .i64 T), .sl 1 1 (bools cs), .sl 1 1 (ints ds), .sl 1 1 (ints ls), .sl 1 1 (sls 1 ps)]),
        some (.arr 3 (dsA es)), some (.box [.v (.int .i64 W), .v (.int .i64 T), .ls 1 4 0 cs.length, .ls 1 5 0 ds.length, .ls 1 6 0 ls.length, .ls 1 7 0 ps.length]),
        some (.arr 3 (dsA es)), some (.arr 1 (bools cs)), some (.arr 1 (ints ds)), some (.arr 1 (ints ls)), some (.arr 1 (oss ps))] := by
  simp [c_laws_FnExactEndDeeds_T0]
  refine call_on (s_laws_markBook W T cs ds ls ps 1 (by omega) (by omega) hc hd hl hs hb hp) ?_
  have hk : ¬ endM 1 cs ds ls ps < 0 := by unfold endM; omega
  simp [hk]
  refine call_on (s_laws_eqDeedS es es (by omega)) ?_
  simp
  refine call_on (s_laws_markDeedS es 1 (by omega) (by omega) (by omega)) ?_
  simp
  refine call_on (s_laws_heldDeedS es.length 1 (by omega) (by omega) (by omega)) ?_
  have hk2 : ¬ (1 + 3 * (es.length : Int) < 0) := by omega
  simp [hk2]
  refine call_on (s_laws_toBook W T cs ds ls ps (by omega) (by omega) (by omega) (by omega) hp) ?_
  simp
  refine call_on im ?_
  simp
  refine call_on (s_laws_eqDeedS es es (by omega)) ?_
  simp
  refine call_on (s_laws_heldDeedS es.length 1 (by omega) (by omega) (by omega)) ?_
  simp [hk2]

theorem s_FnExactEndDeeds (W T : Int) (cs : List Bool) (ds ls : List Int) (ps : List (List Int)) (hc : cs.length ≤ 9223372036854775807) (hd : ds.length ≤ 9223372036854775807) (hl : ls.length ≤ 9223372036854775807) (hb : ps.length ≤ 9223372036854775807) (hp : ∀ p ∈ ps, p.length ≤ 9223372036854775807) :
    SoundAt Tryz.prog n_laws_FnExactEndDeeds [bkA W T cs ds ls ps] (.v (.bool true)) [.bot] := by
  refine fn_ok (md := md3) (ms := [false]) k_laws_FnExactEndDeeds (by simp) ?_
  simp [c_laws_FnExactEndDeeds]
  refine call_on (s_laws_szBook W T cs ds ls ps 1048576 (by omega) (by omega) hc hd hl hb hp) ?_
  by_cases h3 : (1048576 : Int) < totB cs ds ls ps
  · simp [lessI, h3]
  have hn : ¬ lessI 1048576 (totB cs ds ls ps) < 0 := by unfold lessI; split <;> omega
  obtain ⟨c1, c2, c3, c4, c5⟩ := tot_le (cs := cs) (ds := ds) (ls := ls) (ps := ps) (n := 1048576) (by omega)
  have c5' : ∀ p ∈ ps, p.length < 2 ^ 40 := fun p hp => by have := c5 p hp; omega
  have tob := s_laws_toBook W T cs ds ls ps (by omega) (by omega) (by omega) (by omega) c5'
  have im := s_impl_EndDeeds W T cs ds ls ps (by omega) (by omega) (by omega) (by omega) c5'
  have hel := endI_length W T cs ds ls ps
  simp [hn]
  refine call_on tob ?_
  simp
  refine call_on (s_spec_EndDeeds W T cs ds ls ps (by omega) (by omega) (by omega) (by omega) c5') ?_
  generalize endI W T cs ds ls ps = es at *
  simp
  refine call_on tob ?_
  simp
  refine call_on im ?_
  simp
  refine call_on (s_laws_eqDeedS es es (by omega)) ?_
  have hsum : sumL ps < 2 ^ 50 := by
    have : totB cs ds ls ps ≤ 1048576 := by omega
    unfold totB at this; omega
  have tail := t_FnExactEndDeeds W T cs ds ls ps es (by omega) (by omega) (by omega) hsum (by omega) c5' hel im
  simp
  (repeat' first | assumption | apply And.intro) <;>
  · refine call_on tob ?_
    simp
    refine call_on (s_laws_eqBook W T cs ds ls ps (by omega) (by omega) (by omega) (by omega) c5') ?_
    simp
    exact tail

end Go.Proofs.Dev
