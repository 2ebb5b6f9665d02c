/- Contracts of the functions of the program over slots and rows, each proved against the program itself; no condition beyond those that each theorem names. -/
import Derived.Test.YtfeaicblocbapaaGreatAN

set_option linter.unusedSimpArgs false
set_option linter.unusedVariables false

namespace Go.Proofs.Dev
set_option linter.unusedSimpArgs false
set_option maxRecDepth 100000

theorem fair_none {W T : Int} {cs : List Bool} {ds : List Int} (hr : regB W T cs = true) (hd : digsB cs ds = true) : fairB W T cs ds (noneL cs) = true := by
  have hp : pairsI W T ds (noneL cs) = [] := by
    simp [pairsI, pairsTo, ati_none]
  simp [fairB, okB, hr, hd, lays_none, hp, onceB]

theorem solve_none {W T : Int} {cs : List Bool} {ds : List Int} (hr : regB W T cs = true) (hd : digsB cs ds = true) :
    resO ((solsI W T cs ds).find? (hasB (noneL cs))) = .tup [.os 1 (ints (solL W T cs ds (noneL cs))), .v (.bool (solB W T cs ds (noneL cs)))] := by
  have e : firstHas W T cs ds (noneL cs) = (solsI W T cs ds).find? (hasB (noneL cs)) := by simp [firstHas, fair_none hr hd]
  simp only [solL, solB, e]
  cases (solsI W T cs ds).find? (hasB (noneL cs)) <;> simp [resO]

theorem okEnd1 : okFn Tryz.prog n_impl_Book_endDeeds_1 = true := by kernel_rfl

theorem t_impl_endDeeds (W T : Int) (cs : List Bool) (ds ls : List Int) (ps : List (List Int)) (ws : List Int) (sb : Bool)
    (hws : sb = true → ls.length = ws.length ∧ ws.length ≤ 36) :
    awp Tryz.prog md3 c_impl_Book_endDeeds_T2 (Fin [RV.t 2] 88 1 [false] (AV.os 3 (dsA (if sb = true then endT ls ws else []))) [AV.bot])
      [(0, bkP W T cs ds ls ps), (3, .ls 1 0 0 ws.length), (4, .v (.bool sb))] [some (.arr 1 (ints ws))] := by
  cases sb with
  | false => simp [c_impl_Book_endDeeds_T2]
  | true =>
  obtain ⟨e1, e2⟩ := hws rfl
  simp [c_impl_Book_endDeeds_T2, anil]
  refine loop_by (fun m E H => ∃ i : Nat, m = ls.length - i ∧ i ≤ ls.length ∧ H = [some (.arr 1 (ints ws)), some (.arr 3 (dsA (liftsTo ls ws i)))] ∧
    E = [(0, bkP W T cs ds ls ps), (3, .ls 1 0 0 ws.length), (5, .ls 3 1 0 (liftsTo ls ws i).length), (6, .fn n_impl_Book_endDeeds_1 []), (34, .sl 1 1 (ints ls)), (35, .v (.int .i64 ls.length)), (36, .v (.int .i64 i))]) ls.length ⟨0, by simp [liftsTo]⟩ ?_
  rintro J hJ m E H ⟨i, rfl, hi, rfl, rfl⟩
  have hlen := liftsTo_length ls ws i
  have hsuc := liftsTo_succ ls ws i
  by_cases h : i < ls.length
  · have h2 : i < ws.length := by omega
    have nx1 : liftD ls ws i = [] → again J (ls.length - i) [(0, bkP W T cs ds ls ps), (3, .ls 1 0 0 ws.length), (5, .ls 3 1 0 (liftsTo ls ws i).length), (6, .fn n_impl_Book_endDeeds_1 []), (34, .sl 1 1 (ints ls)), (35, .v (.int .i64 ls.length)), (36, .v (.int .i64 (i + 1)))]
        [some (.arr 1 (ints ws)), some (.arr 3 (dsA (liftsTo ls ws i)))] :=
      fun e => ⟨_, by omega, hJ _ _ _ ⟨i + 1, rfl, h, by rw [hsuc, e, List.append_nil], by rw [hsuc, e, List.append_nil]; rfl⟩⟩
    have nx2 : liftD ls ws i = [(1, (i : Int), 0)] → again J (ls.length - i) [(0, bkP W T cs ds ls ps), (3, .ls 1 0 0 ws.length), (5, .ls 3 1 0 ((liftsTo ls ws i).length + 1)), (6, .fn n_impl_Book_endDeeds_1 []), (34, .sl 1 1 (ints ls)), (35, .v (.int .i64 ls.length)), (36, .v (.int .i64 (i + 1)))]
        [some (.arr 1 (ints ws)), some (.arr 3 (dsA (liftsTo ls ws i) ++ [.agg [.v (.int .i64 1), .v (.int .i64 i), .v (.int .i64 0)]]))] :=
      fun e => ⟨_, by omega, hJ _ _ _ ⟨i + 1, rfl, h, by rw [hsuc, e, dsA_append]; rfl, by rw [hsuc, e, List.length_append]; rfl⟩⟩
    have hio : i < 36 := by omega
    simp at nx1 nx2
    simp [c_impl_Book_endDeeds_L0, h, h2]
    refine ⟨okEnd1, ?_⟩
    refine call_on (s_impl_Book_endDeeds_1 (ati ls i)) ?_
    by_cases hw : ati ls i = 1 ∨ ati ls i = 2
    · by_cases hw3 : ati ws i = ati ls i
      · have nx := nx1 (by simp [liftD, hw3])
        simp [hw, hw3, h2]
        exact ⟨by omega, nx⟩
      · have nx := nx2 (by simp [liftD, hw, hw3])
        simp [hw, hw3, h2]
        exact ⟨by omega, by omega, nx⟩
    · have nx := nx1 (by simp only [liftD, hw, false_and, if_false])
      simp [hw, h2]
      exact ⟨by omega, nx⟩
  · have : i = ls.length := by omega
    subst this
    simp [c_impl_Book_endDeeds_L0]
    clear hJ J
    have hL : (liftsTo ls ws ls.length).length ≤ 36 := by omega
    have hE : endT ls ws = liftsTo ls ws ls.length ++ laysTo ls ws ws.length := by rw [e1]; rfl
    rw [hE]
    generalize liftsTo ls ws ls.length = L at *
    refine loop_by (fun m E H => ∃ i : Nat, m = ws.length - i ∧ i ≤ ws.length ∧ H = [some (.arr 3 (dsA (L ++ laysTo ls ws i))), some (.arr 1 (ints ws))] ∧
      E = [(0, bkP W T cs ds ls ps), (5, .ls 3 0 0 (L ++ laysTo ls ws i).length), (6, .fn n_impl_Book_endDeeds_1 []), (58, .ls 1 1 0 ws.length), (59, .v (.int .i64 ws.length)), (60, .v (.int .i64 i))]) ws.length ⟨0, by simp [laysTo]⟩ ?_
    rintro J hJ m E H ⟨i, rfl, hi, rfl, rfl⟩
    have hlen : (L ++ laysTo ls ws i).length ≤ 36 + i := by
      have := laysTo_length ls ws i
      rw [List.length_append]; omega
    have hsuc : L ++ laysTo ls ws (i + 1) = (L ++ laysTo ls ws i) ++ layD ls ws i := by rw [laysTo_succ, List.append_assoc]
    by_cases h : i < ws.length
    case neg =>
      have : i = ws.length := by omega
      subst this
      simp only [c_impl_Book_endDeeds_L1]
      generalize L ++ laysTo ls ws ws.length = M at *
      simp
      refine call_on (s_slices_Clip_Deed M) ?_
      simp
      exact List.take_of_length_le (by simp)
    have h2 : i < ls.length := by omega
    generalize L ++ laysTo ls ws i = M at *
    have nx1 : layD ls ws i = [] → again J (ws.length - i) [(0, bkP W T cs ds ls ps), (5, .ls 3 0 0 M.length), (6, .fn n_impl_Book_endDeeds_1 []), (58, .ls 1 1 0 ws.length), (59, .v (.int .i64 ws.length)), (60, .v (.int .i64 (i + 1)))]
        [some (.arr 3 (dsA M)), some (.arr 1 (ints ws))] :=
      fun e => ⟨_, by omega, hJ _ _ _ ⟨i + 1, rfl, h, by rw [hsuc, e, List.append_nil], by rw [hsuc, e, List.append_nil]; rfl⟩⟩
    have nx2 : layD ls ws i = [(0, (i : Int), ati ws i)] → again J (ws.length - i) [(0, bkP W T cs ds ls ps), (5, .ls 3 0 0 (M.length + 1)), (6, .fn n_impl_Book_endDeeds_1 []), (58, .ls 1 1 0 ws.length), (59, .v (.int .i64 ws.length)), (60, .v (.int .i64 (i + 1)))]
        [some (.arr 3 (dsA M ++ [.agg [.v (.int .i64 0), .v (.int .i64 i), .v (.int .i64 (ati ws i))]])), some (.arr 1 (ints ws))] :=
      fun e => ⟨_, by omega, hJ _ _ _ ⟨i + 1, rfl, h, by rw [hsuc, e, dsA_append]; rfl, by rw [hsuc, e, List.length_append]; rfl⟩⟩
    have hio : i < 36 := by omega
    simp at nx1 nx2
    simp [c_impl_Book_endDeeds_L1, h, h2, anil]
    refine ⟨okEnd1, ?_⟩
    refine call_on (s_impl_Book_endDeeds_1 (ati ws i)) ?_
    by_cases hw : ati ws i = 1 ∨ ati ws i = 2
    · by_cases hw3 : ati ls i = ati ws i
      · have nx := nx1 (by simp [layD, hw3])
        simp [hw, hw3, h2, anil]
        exact ⟨by omega, nx⟩
      · have hw3' : ¬ ati ws i = ati ls i := fun e => hw3 e.symm
        have nx := nx2 (by simp [layD, hw, hw3'])
        simp [hw, hw3, h2, anil]
        exact ⟨by omega, by omega, nx⟩
    · have nx := nx1 (by simp only [layD, hw, false_and, if_false])
      simp [hw, h2, anil]
      exact ⟨by omega, nx⟩

theorem s_impl_Book_endDeeds (W T : Int) (cs : List Bool) (ds ls : List Int) (ps : List (List Int)) (hbk : bookB W T cs ds ls ps = true) :
    SoundAt Tryz.prog n_impl_Book_endDeeds [bkP W T cs ds ls ps] (.os 3 (dsA (if solB W T cs ds (noneL cs) = true then endT ls (solL W T cs ds (noneL cs)) else []))) [.bot] := by
  have hok := fairB_ok (bookB_fair hbk)
  have hW := okB_W hok
  have hc36 := regB_len hW.1
  have hdg : digsB cs ds = true := by simp only [okB, Bool.and_eq_true] at hok; exact hok.2.1
  have hokn := fairB_ok (fair_none hW.1 hdg)
  have hsv := s_impl_Region_solve W T cs ds (noneL cs) hokn
  rw [solve_none hW.1 hdg] at hsv
  have hzr : ints (noneL cs) = List.replicate ds.length (AV.v (.int .i64 0)) := by rw [hW.2.1]; simp [noneL, ints]
  have tl := t_impl_endDeeds W T cs ds ls ps (solL W T cs ds (noneL cs)) (solB W T cs ds (noneL cs)) (fun h2 => ⟨(end_len hbk h2).1, (end_len hbk h2).2.1⟩)
  refine fn_ok (md := md3) (ms := [false]) k_impl_Book_endDeeds (by simp) ?_
  simp [c_impl_Book_endDeeds, anil]
  (repeat' first | omega | apply And.intro) <;>
  · refine call_on hsv ?_
    simp [hzr]
    exact ⟨by rw [← hzr]; simp, tl⟩

theorem s_impl_EndDeeds (W T : Int) (cs : List Bool) (ds ls : List Int) (ps : List (List Int)) (hc : cs.length < 2 ^ 40) (hd : ds.length < 2 ^ 40) (hl : ls.length < 2 ^ 40) (hb : ps.length < 2 ^ 40) (hp : ∀ p ∈ ps, p.length < 2 ^ 40) :
    SoundAt Tryz.prog n_impl_EndDeeds [bkA W T cs ds ls ps] (.os 3 (dsA (endI W T cs ds ls ps))) [.bot] := by
  refine fn_ok (md := md3) (ms := [false]) k_impl_EndDeeds (by simp) ?_
  simp [c_impl_EndDeeds]
  refine call_on (s_impl_BookValid W T cs ds ls ps hc hd hl hb hp) ?_
  cases hbk : bookB W T cs ds ls ps with
  | false => simp [endI, hbk]
  | true =>
  have hr : regB W T cs = true := (okB_W (fairB_ok (bookB_fair hbk))).1
  simp
  refine call_on (s_impl_Book_endDeeds W T cs ds ls ps hbk) ?_
  simp [endI, hbk, bareL, hr]
  exact List.take_of_length_le (by simp)

end Go.Proofs.Dev
