/- Contracts of the functions of the program over slots and rows, each proved against the program itself; no condition beyond those that each theorem names. -/
import Derived.Test.YtfeaicblocbapaaGreatAJ

set_option linter.unusedSimpArgs false
set_option linter.unusedVariables false

namespace Go.Proofs.Dev
set_option linter.unusedSimpArgs false
set_option maxRecDepth 100000

theorem s_laws_heldBoolS (n : Nat) (k : Int) (h0 : 0 ≤ k) (h1 : k < 2 ^ 40) (hb : n < 2 ^ 40) :
    SoundAt Tryz.prog n_laws_heldBoolS [.sl 1 1 (bools (marksB n k)), .v (.int .i64 k)] (.v (.int .i64 (k + n))) [.bot, .bot] := by
  refine fn_ok (md := md0) (ms := [false, false]) k_laws_heldBoolS (by simp) ?_
  simp [c_laws_heldBoolS]
  refine loop_by (fun m E H => ∃ i : Nat, m = n - i ∧ i ≤ n ∧ H = [] ∧ E = [(0, .sl 1 1 (bools (marksB n k))), (1, .v (.int .i64 (k + i))), (5, .v (.int .i64 i))]) n ⟨0, by simp⟩ ?_
  rintro J hJ m E H ⟨i, rfl, hi, rfl, rfl⟩
  simp [c_laws_heldBoolS_L0, marksB_length]
  refine ⟨fun h => ?_, fun h => ?_⟩
  · have e : atb (marksB n k) i = ((k + i) % 3 == 0) := by simp [atb, marksB, h]
    have hl := marksB_length n k
    simp [e, h]
    exact ⟨by omega, by omega, by omega, _, by omega, hJ _ _ _ ⟨i + 1, rfl, h, rfl, by simp; omega⟩⟩
  · have : i = n := by omega
    subst this
    simp


theorem s_laws_heldRegion (W T : Int) (n : Nat) (k : Int) (h0 : 0 ≤ k) (h1 : k < 2 ^ 40) (hb : n < 2 ^ 40) :
    SoundAt Tryz.prog n_laws_heldRegion [.agg [.v (.int .i64 W), .v (.int .i64 T), .sl 1 1 (bools (marksB n k))], .v (.int .i64 k)] (.v (.int .i64 (k + n))) [.bot, .bot] := by
  refine fn_ok (md := md0) (ms := [false, false]) k_laws_heldRegion (by simp) ?_
  simp [c_laws_heldRegion]
  refine call_on (s_laws_heldBoolS n k h0 h1 hb) ?_
  have hn : ¬ (k + (n : Int) < 0) := by omega
  simp [hn]

/-- A book whose lists are marked. -/
def mkC (k : Int) (cs : List Bool) : List Bool := marksB cs.length k
def mkD (k : Int) (cs : List Bool) (ds : List Int) : List Int := marksI ds.length (k + cs.length)
def mkL (k : Int) (cs : List Bool) (ds ls : List Int) : List Int := marksI ls.length (k + cs.length + ds.length)
def mkP (k : Int) (cs : List Bool) (ds ls : List Int) (ps : List (List Int)) : List (List Int) := marksSS (k + cs.length + ds.length + ls.length) ps
def endM (k : Int) (cs : List Bool) (ds ls : List Int) (ps : List (List Int)) : Int := k + cs.length + ds.length + ls.length + sumL ps

@[simp] theorem mkC_length (k : Int) (cs : List Bool) : (mkC k cs).length = cs.length := by simp [mkC]
@[simp] theorem mkD_length (k : Int) (cs : List Bool) (ds : List Int) : (mkD k cs ds).length = ds.length := by simp [mkD]
@[simp] theorem mkL_length (k : Int) (cs : List Bool) (ds ls : List Int) : (mkL k cs ds ls).length = ls.length := by simp [mkL]
@[simp] theorem mkP_length (k : Int) (cs : List Bool) (ds ls : List Int) (ps : List (List Int)) : (mkP k cs ds ls ps).length = ps.length := by simp [mkP]
@[simp] theorem take_mkC (k : Int) (cs : List Bool) : (bools (mkC k cs)).take cs.length = bools (mkC k cs) := List.take_of_length_le (by simp)
@[simp] theorem take_mkD (k : Int) (cs : List Bool) (ds : List Int) : (ints (mkD k cs ds)).take ds.length = ints (mkD k cs ds) := List.take_of_length_le (by simp)
@[simp] theorem take_mkL (k : Int) (cs : List Bool) (ds ls : List Int) : (ints (mkL k cs ds ls)).take ls.length = ints (mkL k cs ds ls) := List.take_of_length_le (by simp)
@[simp] theorem take_mkP (k : Int) (cs : List Bool) (ds ls : List Int) (ps : List (List Int)) : (oss (mkP k cs ds ls ps)).take ps.length = oss (mkP k cs ds ls ps) := List.take_of_length_le (by simp)

@[simp] theorem mkP_nil (k : Int) (cs : List Bool) (ds ls : List Int) : mkP k cs ds ls [] = [] := (rfl)

theorem s_laws_markBook (W T : Int) (cs : List Bool) (ds ls : List Int) (ps : List (List Int)) (k : Int) (h0 : 0 ≤ k) (h1 : k < 2 ^ 21) (hc : cs.length < 2 ^ 21) (hd : ds.length < 2 ^ 21) (hl : ls.length < 2 ^ 21) (hs : sumL ps < 2 ^ 50) (hb : ps.length < 2 ^ 40) (hp : ∀ p ∈ ps, p.length < 2 ^ 40) :
    SoundAt Tryz.prog n_laws_markBook [bkO W T cs ds ls ps, .v (.int .i64 k)] (.v (.int .i64 (endM k cs ds ls ps))) [bkO W T (mkC k cs) (mkD k cs ds) (mkL k cs ds ls) (mkP k cs ds ls ps), .bot] := by
  refine fn_ok (md := md0) (ms := [true, false]) k_laws_markBook (by simp) ?_
  simp [c_laws_markBook]
  refine call_on (s_laws_markRegion W T cs k (by omega) (by omega) (by omega)) ?_
  simp
  refine call_on (s_laws_markIntS ds (k + cs.length) (by omega) (by omega) (by omega)) ?_
  simp
  refine call_on (s_laws_markIntS ls (k + cs.length + ds.length) (by omega) (by omega) (by omega)) ?_
  simp
  refine call_on (s_laws_markIntSS ps (k + cs.length + ds.length + ls.length) (by omega) (by omega) hb hp) ?_
  simp [endM, mkC, mkD, mkL, mkP]

theorem s_laws_heldBook (W T : Int) (cs : List Bool) (ds ls : List Int) (ps : List (List Int)) (k : Int) (h0 : 0 ≤ k) (h1 : k < 2 ^ 21) (hc : cs.length < 2 ^ 21) (hd : ds.length < 2 ^ 21) (hl : ls.length < 2 ^ 21) (hs : sumL ps < 2 ^ 50) (hb : ps.length < 2 ^ 40) (hp : ∀ p ∈ ps, p.length < 2 ^ 40) :
    SoundAt Tryz.prog n_laws_heldBook [bkA W T (mkC k cs) (mkD k cs ds) (mkL k cs ds ls) (mkP k cs ds ls ps), .v (.int .i64 k)] (.v (.int .i64 (endM k cs ds ls ps))) [.bot, .bot] := by
  refine fn_ok (md := md0) (ms := [false, false]) k_laws_heldBook (by simp) ?_
  simp [c_laws_heldBook]
  refine call_on (s_laws_heldRegion W T cs.length k (by omega) (by omega) (by omega)) ?_
  have h2 : ¬ (k + (cs.length : Int) < 0) := by omega
  simp [h2, mkC]
  refine call_on (s_laws_heldIntS ds.length (k + cs.length) (by omega) (by omega) (by omega)) ?_
  have h3 : ¬ (k + (cs.length : Int) + ds.length < 0) := by omega
  simp [h3, mkD]
  refine call_on (s_laws_heldIntS ls.length (k + cs.length + ds.length) (by omega) (by omega) (by omega)) ?_
  have h4 : ¬ (k + (cs.length : Int) + ds.length + ls.length < 0) := by omega
  simp [h4, mkL]
  refine call_on (s_laws_heldIntSS ps (k + cs.length + ds.length + ls.length) (by omega) (by omega) hb hp) ?_
  have h5 : ¬ (k + (cs.length : Int) + ds.length + ls.length + sumL ps < 0) := by omega
  simp [h5, mkP, endM]

theorem newB_eq (W T : Int) (cs : List Bool) (ds : List Int) : ∃ W' T' cs' ds' ls', newB W T cs ds = bkO W' T' cs' ds' ls' [] ∧ cs'.length ≤ cs.length ∧ ds'.length ≤ ds.length ∧ ls'.length ≤ cs.length := by
  unfold newB
  split
  · exact ⟨W, T, cs, ds, noneL cs, rfl, Nat.le_refl _, Nat.le_refl _, by simp [noneL]⟩
  · exact ⟨0, 0, [], [], [], rfl, by simp, by simp, by simp⟩

end Go.Proofs.Dev
