/- Contracts of the functions of the program over slots and rows, each proved against the program itself; no condition beyond those that each theorem names. -/
import Derived.Test.YtlcoaglnegibkaaBJ
import Derived.Test.YtlcoaglnegibkaaAD

set_option linter.unusedSimpArgs false
set_option linter.unusedVariables false

namespace Go.Proofs.Dev
set_option linter.unusedSimpArgs false
set_option maxRecDepth 100000

/-- A list of its own, or a view. -/
def lstA (v : Bool) (ls : List Int) : AV := if v then .sl 0 1 (ints ls) else .os 1 (ints ls)
def drawV (r : AV) (ups : List AV) : Prop := ∃ (W T : Int) (cs : List Bool) (ds ls : List Int) (v : Bool), r = .tup [regA W T cs, .os 1 (ints ds), lstA v ls] ∧ cs.length ≤ 37 ∧ ds.length ≤ 37 ∧ ls.length ≤ 38 ∧ ups = [.bot]

abbrev dsvH (bs : List Int) (q : Nat) (W T : Int) (cs : List Bool) (ds : List Int) : Heap :=
  [some (Row.box [AV.v (Value.int IntKind.i64 0), AV.v (Value.int IntKind.i64 0), AV.os 1 []]),
    some (Row.box [AV.sl 0 1 (u8s bs), AV.v (Value.int IntKind.i64 q)]),
    some (Row.box [AV.v (Value.int IntKind.i64 W), AV.v (Value.int IntKind.i64 T), AV.ls 1 4 0 cs.length]),
    some (Row.arr 1 (ints ds)), some (Row.arr 1 (bools cs))]

set_option maxHeartbeats 4000000 in
theorem dsv_T1 (bs : List Int) (q : Nat) (W T : Int) (cs : List Bool) (ds : List Int) (hb : bs.length ≤ 2000) (hB : Byt bs) (hcs : cs.length ≤ 37) (hds : ds.length ≤ 37) (hq : q ≤ 1000) :
    awp Try.prog md5 c_spec_DrawSolvedOk_T1 (FinS [RV.c 2 true 3, RV.t 3, RV.t 4] 53 1 [false] drawV)
      [(2, AV.lp 0 0 0 0), (5, AV.lp 0 1 0 0), (6, AV.lp 0 2 0 0), (7, AV.ls 1 3 0 ds.length)] (dsvH bs q W T cs ds) := by
  have hmax : ∀ x : Int, 0 ≤ x → 0 ≤ x ∧ 1 ≤ (if tmI W T cs < 1 then 1 else tmI W T cs) := by
    intro x hx; split <;> omega
  simp [c_spec_DrawSolvedOk_T1]
  (repeat' first | omega | apply And.intro) <;>
  · refine call_onK (s_spec_l20Rd_pick bs q 256 hb hB (by omega)) [1] (by simp) (by simp) (by simp) ?_
    rintro _ _ ⟨x, x0, x1, rfl, rfl⟩
    simp
    (repeat' first | omega | apply And.intro) <;>
    · refine call_on (s_spec_TilingsMany W T cs (by omega)) ?_
      generalize tmI W T cs = M at *
      simp [hmax x x0]
      refine call_onK (s_spec_TilingOf W T cs (x % if M < 1 then 1 else M) (by omega)) [] (by simp) (by simp) (by simp) ?_
      rintro _ _ ⟨ls, ok, hls, rfl, rfl⟩
      simp [c_spec_DrawSolvedOk_T0]
      exact ⟨_, _, ⟨W, T, cs, ds, ls, false, rfl, hcs, hds, by omega, rfl⟩, by simp [regA, lstA]⟩

set_option maxHeartbeats 4000000 in
theorem s_spec_DrawSolvedOk (bs : List Int) (hb : bs.length ≤ 2 ^ 60) (hB : Byt bs) : SoundSet Try.prog n_spec_DrawSolvedOk [.sl 0 1 (u8s bs)] drawV := by
  have hb2 : (bs.take 2000).length ≤ 2000 := by simp; omega
  have hB2 := byt_take hB 2000
  refine fn_okS (md := md5) (ms := [false]) k_spec_DrawSolvedOk (by simp) ?_
  simp [c_spec_DrawSolvedOk]
  refine call_on (s_spec_l20Open bs hb) ?_
  simp
  refine call_onK (s_spec_l20Puzzle (bs.take 2000) 0 9 hb2 hB2 (by omega) (by omega) (by omega)) [1] (by simp) (by simp) (by simp) ?_
  rintro _ _ ⟨W, T, cs, ds, q, rfl, hcs, hds, hq, rfl⟩
  simp [regA]
  refine call_on (s_spec_SolutionsAllF W T cs ds (by omega) (by omega)) ?_
  simp
  refine ⟨fun hn => ?_, fun _ => dsv_T1 (bs.take 2000) q W T cs ds hb2 hB2 hcs hds (by omega)⟩
  have hlen : ∀ p ∈ solsI W T cs ds, p.length = cs.length := fun p hp => lays_len (fair_parts (solved_parts (mem_sols.1 hp)).1).2.2.1
  generalize solsI W T cs ds = ss at *
  have hn2 : (0 : Int) < ss.length := by omega
  refine call_onK (s_spec_l20Rd_pick (bs.take 2000) q 3 hb2 hB2 (by omega)) [1] (by simp) (by simp) (by simp) ?_
  rintro _ _ ⟨x, x0, x1, rfl, rfl⟩
  by_cases hx : 0 < x
  · simp [hx]
    (repeat' first | omega | apply And.intro) <;>
    · refine call_onK (s_spec_l20Rd_pick (bs.take 2000) (q + 1) (if 200 < (ss.length : Int) then 200 else ss.length) hb2 hB2 (by omega)) [1] (by simp) (by simp) (by simp) ?_
      rintro _ _ ⟨y, y0, y1, rfl, rfl⟩
      have hy : y < ss.length := by
        rcases y1 with y1 | y1
        · split at y1 <;> omega
        · omega
      have hy2 : y.toNat < ss.length := by omega
      have hpl : (pti ss y).length ≤ 38 := by
        have e : pti ss y = ss[y.toNat] := by
          have := pti_get hy2
          rwa [Int.toNat_of_nonneg y0] at this
        rw [e, hlen _ (List.getElem_mem hy2)]
        omega
      simp [hy, hy2, y0]
      (repeat' apply And.intro) <;>
      · exact ⟨_, _, ⟨W, T, cs, ds, pti ss y, true, rfl, hcs, hds, hpl, rfl⟩, by simp [regA, lstA]⟩
  · simp [hx]
    exact dsv_T1 (bs.take 2000) (q + 1) W T cs ds hb2 hB2 hcs hds (by omega)
end Go.Proofs.Dev
