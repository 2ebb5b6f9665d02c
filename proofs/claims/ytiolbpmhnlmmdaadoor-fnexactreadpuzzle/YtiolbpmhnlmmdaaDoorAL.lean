/- Contracts of the functions of the program over slots and rows, each proved against the program itself; no condition beyond those that each theorem names. -/
import Derived.Test.YtiolbpmhnlmmdaaDoorAK
import Derived.Test.YtiolbpmhnlmmdaaDoorAH
import Derived.Test.YtiolbpmhnlmmdaaDoorAI
import Derived.Test.YtiolbpmhnlmmdaaDoorProg

set_option linter.unusedSimpArgs false
set_option linter.unusedVariables false

namespace Go.Proofs.Dev
set_option linter.unusedSimpArgs false
set_option maxRecDepth 100000

@[simp] def md0 (f : Nat) : List Bool := if f = 22 ∨ f = 23 ∨ f = 55 ∨ f = 999999 ∨ f = 999999 then [true, false] else if f = 999999 ∨ f = 999999 ∨ f = 999999 ∨ f = 999999 ∨ f = 999999 then [true] else []

theorem set_mid {α : Type} (X bs : List α) (i : Nat) (v : α) (hX : X.length = i) (hi : i < bs.length) : (X ++ bs.drop i).set i v = (X ++ [v]) ++ bs.drop (i + 1) := by
  rw [List.set_append_right _ _ (by omega), hX, Nat.sub_self, List.drop_eq_getElem_cons hi, List.set_cons_zero, List.append_assoc]
  rfl

def marksB (n : Nat) (k : Int) : List Bool := (List.range n).map fun (j : Nat) => (k + j) % 3 == 0
def marksI (n : Nat) (k : Int) : List Int := (List.range n).map fun (j : Nat) => k + j

theorem s_laws_eqBoolS (xs ys : List Bool) (ha : xs.length < 2 ^ 40) :
    SoundAt Tryd.prog n_laws_eqBoolS [.sl 1 1 (bools xs), .sl 1 1 (bools ys)] (.v (.bool (decide (xs = ys)))) [.bot, .bot] := by
  refine fn_ok (md := md0) (ms := [false, false]) k_laws_eqBoolS (by simp) ?_
  simp [c_laws_eqBoolS]
  refine ⟨fun h => ?_, fun hl => ?_⟩
  · intro e; subst e; exact h rfl
  refine loop_by (fun m E H => ∃ i : Nat, m = xs.length - i ∧ i ≤ xs.length ∧ xs.take i = ys.take i ∧ H = [] ∧ E = [(0, .sl 1 1 (bools xs)), (1, .sl 1 1 (bools ys)), (5, .v (.int .i64 i))]) xs.length ⟨0, by simp⟩ ?_
  rintro J hJ m E H ⟨i, rfl, hi, he, rfl, rfl⟩
  simp [c_laws_eqBoolS_L0]
  refine ⟨fun h => ?_, fun h => ?_⟩
  · have h2 : i < ys.length := by omega
    simp [h, h2]
    have key : (atb xs i = atb ys i) → xs.take (i + 1) = ys.take (i + 1) := by
      intro e
      rw [List.take_succ_eq_append_getElem h, List.take_succ_eq_append_getElem (by omega), he]
      simp [atb, h, show i < ys.length by omega] at e
      rw [e]
    have key2 : ¬ (atb xs i = atb ys i) → xs ≠ ys := fun e e2 => e (by rw [e2])
    refine ⟨fun e => ?_, fun e => ?_⟩
    · exact key2 (by simpa using e)
    · exact ⟨by omega, _, by omega, hJ _ _ _ ⟨i + 1, rfl, h, key (by simpa using e), rfl, rfl⟩⟩
  · have h1 : i = xs.length := by omega
    subst h1
    rw [List.take_length] at he
    rw [he]
    exact List.take_of_length_le (by omega)

theorem s_laws_eqIntS (xs ys : List Int) (ha : xs.length < 2 ^ 40) :
    SoundAt Tryd.prog n_laws_eqIntS [.sl 1 1 (ints xs), .sl 1 1 (ints ys)] (.v (.bool (decide (xs = ys)))) [.bot, .bot] := by
  refine fn_ok (md := md0) (ms := [false, false]) k_laws_eqIntS (by simp) ?_
  simp [c_laws_eqIntS]
  refine ⟨fun h => ?_, fun hl => ?_⟩
  · intro e; subst e; exact h rfl
  refine loop_by (fun m E H => ∃ i : Nat, m = xs.length - i ∧ i ≤ xs.length ∧ xs.take i = ys.take i ∧ H = [] ∧ E = [(0, .sl 1 1 (ints xs)), (1, .sl 1 1 (ints ys)), (5, .v (.int .i64 i))]) xs.length ⟨0, by simp⟩ ?_
  rintro J hJ m E H ⟨i, rfl, hi, he, rfl, rfl⟩
  simp [c_laws_eqIntS_L0]
  refine ⟨fun h => ?_, fun h => ?_⟩
  · have h2 : i < ys.length := by omega
    simp [h, h2]
    have key : (ati xs i = ati ys i) → xs.take (i + 1) = ys.take (i + 1) := by
      intro e
      rw [List.take_succ_eq_append_getElem h, List.take_succ_eq_append_getElem (by omega), he]
      simp [ati, h, show i < ys.length by omega] at e
      rw [e]
    have key2 : ¬ (ati xs i = ati ys i) → xs ≠ ys := fun e e2 => e (by rw [e2])
    refine ⟨fun e => ?_, fun e => ?_⟩
    · exact key2 (by simpa using e)
    · exact ⟨by omega, _, by omega, hJ _ _ _ ⟨i + 1, rfl, h, key (by simpa using e), rfl, rfl⟩⟩
  · have h1 : i = xs.length := by omega
    subst h1
    rw [List.take_length] at he
    rw [he]
    exact List.take_of_length_le (by omega)

theorem s_laws_markBoolS (bs : List Bool) (k : Int) (h0 : 0 ≤ k) (h1 : k < 2 ^ 40) (hb : bs.length < 2 ^ 40) :
    SoundAt Tryd.prog n_laws_markBoolS [.os 1 (bools bs), .v (.int .i64 k)] (.v (.int .i64 (k + bs.length))) [.os 1 (bools (marksB bs.length k)), .bot] := by
  refine fn_ok (md := md0) (ms := [true, false]) k_laws_markBoolS (by simp) ?_
  simp [c_laws_markBoolS]
  refine loop_by (fun m E H => ∃ i : Nat, m = bs.length - i ∧ i ≤ bs.length ∧ H = [some (.arr 1 (bools (marksB i k ++ bs.drop i)))] ∧ E = [(0, .ls 1 0 0 bs.length), (1, .v (.int .i64 (k + i))), (5, .v (.int .i64 i)), (21, .ls 1 0 0 bs.length)]) bs.length ⟨0, by simp [marksB]⟩ ?_
  rintro J hJ m E H ⟨i, rfl, hi, rfl, rfl⟩
  simp [c_laws_markBoolS_L0]
  refine ⟨fun h => ?_, fun h => ?_⟩
  · simp [h]
    have e : (bools (marksB i k ++ bs.drop i)).set i (.v (.bool ((k + i) % 3 == 0))) = bools (marksB (i + 1) k ++ bs.drop (i + 1)) := by
      rw [bools_set, set_mid _ _ _ _ (by simp [marksB]) h, marksB, marksB, List.range_succ, List.map_append]; rfl
    simp [marksB] at e ⊢
    refine ⟨by omega, by omega, by omega, by omega, _, ?_, hJ _ _ _ ⟨i + 1, rfl, h, ?_, ?_⟩⟩
    · omega
    · simp [marksB, e]
    · simp; omega
  · have : i = bs.length := by omega
    subst this
    simp [marksB]

theorem s_laws_markIntS (bs : List Int) (k : Int) (h0 : 0 ≤ k) (h1 : k < 2 ^ 40) (hb : bs.length < 2 ^ 40) :
    SoundAt Tryd.prog n_laws_markIntS [.os 1 (ints bs), .v (.int .i64 k)] (.v (.int .i64 (k + bs.length))) [.os 1 (ints (marksI bs.length k)), .bot] := by
  refine fn_ok (md := md0) (ms := [true, false]) k_laws_markIntS (by simp) ?_
  simp [c_laws_markIntS]
  refine loop_by (fun m E H => ∃ i : Nat, m = bs.length - i ∧ i ≤ bs.length ∧ H = [some (.arr 1 (ints (marksI i k ++ bs.drop i)))] ∧ E = [(0, .ls 1 0 0 bs.length), (1, .v (.int .i64 (k + i))), (5, .v (.int .i64 i)), (19, .ls 1 0 0 bs.length)]) bs.length ⟨0, by simp [marksI]⟩ ?_
  rintro J hJ m E H ⟨i, rfl, hi, rfl, rfl⟩
  simp [c_laws_markIntS_L0]
  refine ⟨fun h => ?_, fun h => ?_⟩
  · simp [h]
    have e : (ints (marksI i k ++ bs.drop i)).set i (.v (.int .i64 (k + i))) = ints (marksI (i + 1) k ++ bs.drop (i + 1)) := by
      rw [ints_set, set_mid _ _ _ _ (by simp [marksI]) h, marksI, marksI, List.range_succ, List.map_append]; rfl
    simp [marksI] at e ⊢
    refine ⟨by omega, by omega, by omega, _, ?_, hJ _ _ _ ⟨i + 1, rfl, h, ?_, ?_⟩⟩
    · omega
    · simp [marksI, e]
    · simp; omega
  · have : i = bs.length := by omega
    subst this
    simp [marksI]


@[simp] theorem marksI_length (n : Nat) (k : Int) : (marksI n k).length = n := by simp [marksI]
@[simp] theorem marksB_length (n : Nat) (k : Int) : (marksB n k).length = n := by simp [marksB]

@[simp] theorem take_marksI (n : Nat) (k : Int) : (ints (marksI n k)).take n = ints (marksI n k) := by
  have := take_ints_all (marksI n k)
  rwa [marksI_length] at this
@[simp] theorem take_marksB (n : Nat) (k : Int) : (bools (marksB n k)).take n = bools (marksB n k) := by
  have := take_bools_all (marksB n k)
  rwa [marksB_length] at this

theorem s_laws_heldIntS (n : Nat) (k : Int) (h0 : 0 ≤ k) (h1 : k < 2 ^ 40) (hb : n < 2 ^ 40) :
    SoundAt Tryd.prog n_laws_heldIntS [.sl 1 1 (ints (marksI n k)), .v (.int .i64 k)] (.v (.int .i64 (k + n))) [.bot, .bot] := by
  refine fn_ok (md := md0) (ms := [false, false]) k_laws_heldIntS (by simp) ?_
  simp [c_laws_heldIntS]
  refine loop_by (fun m E H => ∃ i : Nat, m = n - i ∧ i ≤ n ∧ H = [] ∧ E = [(0, .sl 1 1 (ints (marksI n k))), (1, .v (.int .i64 (k + i))), (5, .v (.int .i64 i))]) n ⟨0, by simp⟩ ?_
  rintro J hJ m E H ⟨i, rfl, hi, rfl, rfl⟩
  simp [c_laws_heldIntS_L0, marksI_length]
  refine ⟨fun h => ?_, fun h => ?_⟩
  · have e : ati (marksI n k) i = k + i := by simp [ati, marksI, h]
    have hl := marksI_length n k
    simp [e, h]
    refine ⟨by omega, by omega, _, by omega, hJ _ _ _ ⟨i + 1, rfl, h, rfl, ?_⟩⟩
    simp; omega
  · have : i = n := by omega
    subst this
    simp

theorem s_laws_eqRegion (W T W2 T2 : Int) (xs ys : List Bool) (ha : xs.length < 2 ^ 40) :
    SoundAt Tryd.prog n_laws_eqRegion [.agg [.v (.int .i64 W), .v (.int .i64 T), .sl 1 1 (bools xs)], .agg [.v (.int .i64 W2), .v (.int .i64 T2), .sl 1 1 (bools ys)]] (.v (.bool (decide (W = W2 ∧ T = T2 ∧ xs = ys)))) [.bot, .bot] := by
  refine fn_ok (md := md0) (ms := [false, false]) k_laws_eqRegion (by simp) ?_
  simp [c_laws_eqRegion]
  refine ⟨fun h => fun e => absurd e h, fun h1 => ⟨fun h _ e => absurd e h, fun h2 => ?_⟩⟩
  refine call_on (s_laws_eqBoolS xs ys ha) ?_
  simp [h1, h2]

theorem s_laws_markRegion (W T : Int) (bs : List Bool) (k : Int) (h0 : 0 ≤ k) (h1 : k < 2 ^ 40) (hb : bs.length < 2 ^ 40) :
    SoundAt Tryd.prog n_laws_markRegion [.agg [.v (.int .i64 W), .v (.int .i64 T), .os 1 (bools bs)], .v (.int .i64 k)] (.v (.int .i64 (k + bs.length))) [.agg [.v (.int .i64 W), .v (.int .i64 T), .os 1 (bools (marksB bs.length k))], .bot] := by
  refine fn_ok (md := md0) (ms := [true, false]) k_laws_markRegion (by simp) ?_
  simp [c_laws_markRegion]
  refine call_on (s_laws_markBoolS bs k h0 h1 hb) ?_
  simp [marksB_length]

end Go.Proofs.Dev

namespace Go.Proofs.Dev
set_option linter.unusedSimpArgs false
set_option maxRecDepth 100000

theorem s_spec_l1In (x lo hi : Int) : SoundAt Tryd.prog n_spec_l1In [.v (.int .i64 x), .v (.int .i64 lo), .v (.int .i64 hi)] (.v (.bool (decide (lo ≤ x ∧ x ≤ hi)))) [.bot, .bot, .bot] := by
  refine fn_ok (md := md0) (ms := [false, false, false]) k_spec_l1In (by simp) ?_
  simp [c_spec_l1In]
  constructor
  · intro h; simp [h]
  · intro h; omega

theorem s_spec_l1Count (bs : List Bool) (hb : bs.length < 2 ^ 40) : SoundAt Tryd.prog n_spec_l1Count [.sl 1 1 (bools bs)] (.v (.int .i64 (manyOf bs))) [.bot] := by
  refine fn_ok (md := md0) (ms := [false]) k_spec_l1Count (by simp) ?_
  simp [c_spec_l1Count]
  refine loop_by (fun m E H => ∃ i : Nat, m = bs.length - i ∧ i ≤ bs.length ∧ H = [] ∧ E = [(0, .sl 1 1 (bools bs)), (3, .v (.int .i64 (manyOf (bs.take i)))), (4, .v (.int .i64 i))]) bs.length ⟨0, by simp [manyOf]⟩ ?_
  rintro J hJ m E H ⟨i, rfl, hi, rfl, rfl⟩
  simp [c_spec_l1Count_L0]
  refine ⟨fun h => ?_, fun h => ?_⟩
  · have e := manyOf_take bs i h
    have e3 := manyOf_le (bs.take i)
    rw [List.length_take] at e3
    simp [h]
    refine ⟨fun hb => ⟨by omega, by omega, _, by omega, hJ _ _ _ ⟨i + 1, rfl, h, rfl, ?_⟩⟩, fun hb => ⟨by omega, _, by omega, hJ _ _ _ ⟨i + 1, rfl, h, rfl, ?_⟩⟩⟩ <;> simp [e, hb]
  · have : i = bs.length := by omega
    subst this
    simp

theorem s_spec_RegionValid (W T : Int) (cs : List Bool) (hb : cs.length < 2 ^ 40) : SoundAt Tryd.prog n_spec_RegionValid [.agg [.v (.int .i64 W), .v (.int .i64 T), .sl 1 1 (bools cs)]] (.v (.bool (regB W T cs))) [.bot] := by
  refine fn_ok (md := md0) (ms := [false]) k_spec_RegionValid (by simp) ?_
  simp [c_spec_RegionValid]
  refine call_on (s_spec_l1In W 1 6) ?_
  simp
  refine ⟨fun h h' => ?_, fun h => ?_⟩
  · refine call_on (s_spec_l1In T 1 6) ?_
    have hx : T ≤ 6 → W * T ≤ 36 ∧ (1 ≤ T → 1 ≤ W * T) := fun ht => ⟨(by
      by_cases h0 : 0 ≤ T
      · exact Int.mul_le_mul h' ht h0 (by omega)
      · have : W * T ≤ 0 := Int.mul_nonpos_of_nonneg_of_nonpos (by omega) (by omega)
        omega), fun h1 => Int.mul_pos (by omega) (by omega)⟩
    simp
    refine ⟨fun h1 h2 => ⟨by have := hx h2; omega, fun h3 => ?_, fun h3 => ?_⟩, fun h1 => ?_⟩
    · refine call_on (s_spec_l1Count cs hb) ?_
      simp [regB, h, h', h1, h2, h3]
      omega
    · simp [regB]; omega
    · simp [regB]; omega
  · simp [regB]; omega

end Go.Proofs.Dev

namespace Go.Proofs.Dev
set_option linter.unusedSimpArgs false
set_option maxRecDepth 100000

theorem s_spec_PuzzleValid (W T : Int) (cs : List Bool) (ds : List Int) (hb : cs.length < 2 ^ 40) (hd : ds.length < 2 ^ 40) :
    SoundAt Tryd.prog n_spec_PuzzleValid [.agg [.v (.int .i64 W), .v (.int .i64 T), .sl 1 1 (bools cs)], .sl 1 1 (ints ds)] (.v (.bool (regB W T cs && digsB cs ds))) [.bot, .bot] := by
  refine fn_ok (md := md0) (ms := [false, false]) k_spec_PuzzleValid (by simp) ?_
  simp [c_spec_PuzzleValid]
  refine call_on (s_spec_RegionValid W T cs hb) ?_
  simp
  refine ⟨fun hr => ⟨fun hl => ?_, fun hl => ?_⟩, fun hr => ?_⟩
  · intro _
    simp [digsB]; omega
  · have hl' : ds.length = cs.length := by omega
    refine loop_by (fun m E H => ∃ i : Nat, m = ds.length - i ∧ i ≤ ds.length ∧ allB i (fun k => digAt cs ds k) = true ∧ H = [some (.box [.v (.int .i64 W), .v (.int .i64 T), .sl 1 1 (bools cs)])] ∧ E = [(1, .sl 1 1 (ints ds)), (2, .lp 0 0 0 0), (5, .v (.int .i64 i))]) ds.length ⟨0, by simp [allB_zero]⟩ ?_
    rintro J hJ m E H ⟨i, rfl, hi, ha, rfl, rfl⟩
    by_cases h : i < ds.length
    · have h2 : i < cs.length := by omega
      have next : digAt cs ds i = true → again J (ds.length - i) [(1, .sl 1 1 (ints ds)), (2, .lp 0 0 0 0), (5, .v (.int .i64 (i + 1)))] [some (.box [.v (.int .i64 W), .v (.int .i64 T), .sl 1 1 (bools cs)])] :=
        fun hd => ⟨_, by omega, hJ _ _ _ ⟨i + 1, rfl, h, by rw [allB_succ, ha, hd]; rfl, rfl, rfl⟩⟩
      have stop : digAt cs ds i = false → digsB cs ds = false := fun hd => by simp only [digsB, hl', decide_true, Bool.true_and]; exact allB_false h2 hd
      cases hc : atb cs i with
      | true =>
        simp [c_spec_PuzzleValid_L0, h, h2, hc]
        refine call_on (s_spec_l1In (ati ds i) 0 6) ?_
        simp [digAt, hc] at next stop ⊢
        (repeat' first | assumption | omega | apply And.intro | intro _) <;> first | omega | exact stop (by omega) | exact next (by omega) (by omega)
      | false =>
        simp [c_spec_PuzzleValid_L0, h, h2, hc]
        simp [digAt, hc] at next stop ⊢
        exact ⟨fun hx => fun _ => stop hx, fun hx => ⟨by omega, next hx⟩⟩
    · have : i = ds.length := by omega
      subst this
      simp [c_spec_PuzzleValid_L0]
      simp [digsB, hr, hl'] at ha ⊢
      exact ha
  · simp [hr]

end Go.Proofs.Dev

namespace Go.Proofs.Dev
set_option linter.unusedSimpArgs false
set_option maxRecDepth 100000

end Go.Proofs.Dev

namespace Go.Proofs.Dev
set_option linter.unusedSimpArgs false
set_option maxRecDepth 100000

end Go.Proofs.Dev

namespace Go.Proofs.Dev
set_option linter.unusedSimpArgs false
set_option maxRecDepth 100000

theorem s_impl_in (x lo hi : Int) : SoundAt Tryd.prog n_impl_in [.v (.int .i64 x), .v (.int .i64 lo), .v (.int .i64 hi)] (.v (.bool (decide (lo ≤ x ∧ x ≤ hi)))) [.bot, .bot, .bot] := by
  refine fn_ok (md := md0) (ms := [false, false, false]) k_impl_in (by simp) ?_
  simp [c_impl_in]
  constructor
  · intro h; simp [h]
  · intro h; omega

theorem s_impl_many (bs : List Bool) (hb : bs.length < 2 ^ 40) : SoundAt Tryd.prog n_impl_many [.sl 1 1 (bools bs)] (.v (.int .i64 (manyOf bs))) [.bot] := by
  refine fn_ok (md := md0) (ms := [false]) k_impl_many (by simp) ?_
  simp [c_impl_many]
  refine loop_by (fun m E H => ∃ i : Nat, m = bs.length - i ∧ i ≤ bs.length ∧ H = [] ∧ E = [(3, .v (.int .i64 (manyOf (bs.take i)))), (6, .sl 1 1 (bools bs)), (7, .v (.int .i64 bs.length)), (8, .v (.int .i64 i))]) bs.length ⟨0, by simp [manyOf]⟩ ?_
  rintro J hJ m E H ⟨i, rfl, hi, rfl, rfl⟩
  simp [c_impl_many_L0]
  refine ⟨fun h => ?_, fun h => ?_⟩
  · have e := manyOf_take bs i h
    have e3 := manyOf_le (bs.take i)
    rw [List.length_take] at e3
    simp [h]
    refine ⟨fun hb => ⟨by omega, by omega, _, by omega, hJ _ _ _ ⟨i + 1, rfl, h, rfl, ?_⟩⟩, fun hb => ⟨by omega, _, by omega, hJ _ _ _ ⟨i + 1, rfl, h, rfl, ?_⟩⟩⟩ <;> simp [e, hb]
  · have : i = bs.length := by omega
    subst this
    simp

theorem s_impl_RegionValid (W T : Int) (cs : List Bool) (hb : cs.length < 2 ^ 40) : SoundAt Tryd.prog n_impl_RegionValid [.agg [.v (.int .i64 W), .v (.int .i64 T), .sl 1 1 (bools cs)]] (.v (.bool (regB W T cs))) [.bot] := by
  refine fn_ok (md := md0) (ms := [false]) k_impl_RegionValid (by simp) ?_
  simp [c_impl_RegionValid]
  refine call_on (s_impl_in W 1 6) ?_
  simp
  refine ⟨fun h h' => ?_, fun h => ?_⟩
  · refine call_on (s_impl_in T 1 6) ?_
    have hx : T ≤ 6 → W * T ≤ 36 ∧ (1 ≤ T → 1 ≤ W * T) := fun ht => ⟨(by
      by_cases h0 : 0 ≤ T
      · exact Int.mul_le_mul h' ht h0 (by omega)
      · have : W * T ≤ 0 := Int.mul_nonpos_of_nonneg_of_nonpos (by omega) (by omega)
        omega), fun h1 => Int.mul_pos (by omega) (by omega)⟩
    simp
    refine ⟨fun h1 h2 => ⟨by have := hx h2; omega, fun h3 => ?_, fun h3 => ?_⟩, fun h1 => ?_⟩
    · refine call_on (s_impl_many cs hb) ?_
      simp [regB, h, h', h1, h2, h3]
      omega
    · simp [regB]; omega
    · simp [regB]; omega
  · simp [regB]; omega

end Go.Proofs.Dev

namespace Go.Proofs.Dev
set_option linter.unusedSimpArgs false
set_option maxRecDepth 100000

@[simp] def mdT (_ : Nat) : List Bool := []

theorem numT_lo {n : Int} (h : n < 10) : numT n = [b8 (48 + n)] := by simp [numT, h]
theorem numT_hi {n : Int} (h : ¬ n < 10) : numT n = [b8 (48 + n / 10), b8 (48 + n % 10)] := by simp [numT, h]

theorem num_lo (n : Int) (h0 : 0 ≤ n) (h1 : n < 10) : SoundAt Tryd.prog n_spec_l1Number [.v (.int .i64 n)] (.v (tx (numT n))) [.bot] := by
  refine fn_ok (md := mdT) (ms := [false]) k_spec_l1Number (by simp) ?_
  have hn : ¬ n < 0 := by omega
  simp [c_spec_l1Number, hn, h1, numT_lo h1, b8, astr, u8L]
  omega

theorem s_spec_l1Number (n : Int) (h0 : 0 ≤ n) (h1 : n < 100) : SoundAt Tryd.prog n_spec_l1Number [.v (.int .i64 n)] (.v (tx (numT n))) [.bot] := by
  by_cases h : n < 10
  · exact num_lo n h0 h
  refine fn_ok (md := mdT) (ms := [false]) k_spec_l1Number (by simp) ?_
  have hn : ¬ n < 0 := by omega
  have c := num_lo (n / 10) (by omega) (by omega)
  rw [numT_lo (by omega)] at c
  simp [c_spec_l1Number, hn, h, astr, u8L]
  (repeat' first | omega | apply And.intro) <;>
  · refine call_on c ?_
    simp [h, numT_hi h, b8, astr, u8L]
    try omega

end Go.Proofs.Dev

namespace Go.Proofs.Dev
open Go.RowKit
set_option linter.unusedSimpArgs false
set_option maxRecDepth 100000

theorem RL_vs {C : Ctx} : ∀ {xs : List Value} {S : List Nat} {us : List Value}, RL C (xs.map AV.v) S us → S = [] ∧ us = xs
  | [], S, us, h => by
    have h' : RL C [] S us := h
    rw [RL] at h'
    exact h'
  | x :: xs, S, us, h => by
    have h' : RL C (.v x :: xs.map AV.v) S us := h
    rw [RL] at h'
    obtain ⟨S1, S2, u, us', rfl, rfl, h1, h2⟩ := h'
    rw [R] at h1
    obtain ⟨rfl, rfl⟩ := RL_vs h2
    rw [h1.1, h1.2]
    exact ⟨rfl, rfl⟩

theorem RL_bts {C : Ctx} : ∀ xs : List Value, RL C (xs.map fun _ => AV.bot) [] xs
  | [] => by show RL C [] [] []; rw [RL]; exact ⟨rfl, rfl⟩
  | x :: xs => by
    show RL C (.bot :: xs.map fun _ => AV.bot) [] (x :: xs)
    rw [RL]; exact ⟨[], [], _, _, rfl, rfl, by rw [R], RL_bts xs⟩

theorem of_lib {P : Program} {f : Nat} {xs : List Value} {r : AV} (h : ∀ (w : World) (S : List Nat) (forb : Nat → Prop), GB w S forb → Calls P f xs.toArray w fun e w' => ∃ v S', e = .returned v ∧ R (cout w' S' forb) r S' v ∧ S'.Nodup ∧ (∀ x ∈ S', x < w'.heap.size ∧ w.heap.size ≤ x) ∧ Kept w.heap.size [] w w') :
    SoundAt P f (xs.map AV.v) r (xs.map fun _ => .bot) := by
  intro w forb us S hr hnd hlt hforb
  obtain ⟨rfl, rfl⟩ := RL_vs hr
  refine (h w [] forb hforb.2).mono ?_
  rintro e w' ⟨v, S', rfl, h1, h2, h3, h4⟩
  refine ⟨v, S', rfl, ?_, h2, fun x hx => ⟨(h3 x hx).1, .inl (h3 x hx).2⟩, h4⟩
  rw [RL]
  exact ⟨S', [], v, _, by simp, rfl, h1, RL_bts _⟩

theorem maxLen_cell {w : World} {S : List Nat} {forb : Nat → Prop} (h : GB w S forb) : ∃ m : Int, w.cell? ⟨1, 0, none⟩ = some (.int .i64 m) := by
  obtain ⟨u, h1, m, rfl⟩ := h.cell (g := 1) (p := intP) (by simp [gps])
  exact ⟨m, h1⟩

theorem s_strings_Split (s : List UInt8) (c : UInt8) (hs : s.length < 2 ^ 30) : SoundAt Tryd.prog 57 [.v (tx s), .v (tx [c])] (.os 1 (txs (cutL c s))) [.bot, .bot] := by
  refine of_lib (xs := [tx s, tx [c]]) fun w S forb hg => ?_
  obtain ⟨m, hm⟩ := maxLen_cell hg
  refine (Tryd.strings_Split ⟨s.toArray⟩ ⟨[c].toArray⟩ m w (by simp; omega) hm (by simp)).mono ?_
  rintro e w' ⟨rfl, rfl⟩
  have hb := splitB_cut c s
  have hl := Go.Lib.splitB_all ⟨[c].toArray⟩ (by simp) 0 _ ⟨s.toArray⟩ rfl
  have hlen : Go.Lib.countB ⟨s.toArray⟩ ⟨[c].toArray⟩ + 1 = (cutL c s).length := by
    have := congrArg List.length hb
    simp only [List.length_map] at this
    rw [← this, hl]
  rw [hb, hlen]
  have hcell : ∀ j u, ((cutL c s).map tx)[j]? = some u → (w.alloc (.cells ((cutL c s).map tx).toArray 9)).cell? ⟨w.heap.size, 0 + j, none⟩ = some u := by
    intro j u hj
    have e : (w.alloc (.cells ((cutL c s).map tx).toArray 9)).heap[w.heap.size]? = some (.cells ((cutL c s).map tx).toArray 9) := by
      show (w.heap.push _)[w.heap.size]? = _
      simp
    simp only [World.cell?, e, Nat.zero_add]
    simpa using hj
  refine ⟨_, [w.heap.size], rfl, ?_, by simp, ?_, ?_⟩
  · rw [R]
    refine ⟨some ⟨w.heap.size, 0, none⟩, (cutL c s).length, by rw [txs_length], by rw [txs_length]; exact Nat.le_refl _, ?_⟩
    right
    refine ⟨by omega, w.heap.size, 0, (cutL c s).map tx, [], rfl, rfl, ?_, ?_, hcell, sized_txs _, by rw [flatE_txs]; exact RL_txs _ _⟩
    · show w.heap.size < (w.heap.push _).size
      simp
    · intro j hj
      have hj' : j < (cutL c s).length := by omega
      refine ⟨⟨tx (cutL c s)[j], hcell j _ (by simp [hj'])⟩, ?_⟩
      have e : (w.alloc (.cells ((cutL c s).map tx).toArray 9)).heap[w.heap.size]? = some (.cells ((cutL c s).map tx).toArray 9) := by
        show (w.heap.push _)[w.heap.size]? = _
        simp
      show (w.alloc (.cells ((cutL c s).map tx).toArray 9)).frozen? ⟨w.heap.size, 0 + j, none⟩ = false
      simp only [World.frozen?, e]
      simp
  · intro x hx
    simp at hx
    subst hx
    exact ⟨by show w.heap.size < (w.heap.push _).size; simp, Nat.le_refl _⟩
  · exact ⟨rfl, rfl, rfl, by show w.heap.size ≤ (w.heap.push _).size; simp, fun k hk _ => heapOld w _ k hk, fun _ _ _ h => room_alloc h⟩

end Go.Proofs.Dev

namespace Go.Proofs.Dev
open Go.RowKit
set_option linter.unusedSimpArgs false
set_option maxRecDepth 100000

theorem cut_no {c : UInt8} : ∀ {l : List UInt8}, (∀ j : Nat, l[j]? ≠ some c) → cutL c l = [l]
  | [], _ => rfl
  | x :: l, h => by
    have h0 : x ≠ c := by have := h 0; simpa using this
    rw [cutL, if_neg h0, cut_no (l := l) (fun j => by have := h (j + 1); simpa using this)]
theorem cut_at {c : UInt8} : ∀ {l : List UInt8} {i : Nat}, l[i]? = some c → (∀ j : Nat, j < i → l[j]? ≠ some c) → cutL c l = l.take i :: cutL c (l.drop (i + 1))
  | [], i, h, _ => by simp at h
  | x :: l, 0, h, _ => by
    have : x = c := by simpa using h
    rw [cutL, if_pos this]; simp
  | x :: l, i + 1, h, h2 => by
    have h0 : x ≠ c := by have := h2 0 (by omega); simpa using this
    rw [cutL, if_neg h0, cut_at (l := l) (i := i) (by simpa using h) (fun j hj => by have := h2 (j + 1) (by omega); simpa using this)]
    simp

theorem cutL_le (c : UInt8) : ∀ s : List UInt8, (cutL c s).length ≤ s.length + 1
  | [] => by simp [cutL]
  | x :: s => by
    have := cutL_le c s
    rw [cutL]
    split
    · simp; omega
    · obtain ⟨p, ps, h⟩ := cutL_cons c s
      rw [h] at this ⊢
      simp at this ⊢; omega

theorem s_spec_l1Cut (s : List UInt8) (c : UInt8) (hs : s.length < 2 ^ 30) : SoundAt Tryd.prog n_spec_l1Cut [.v (tx s), .v (.int .u8 (c.toNat : Int))] (.os 1 (txs (cutL c s))) [.bot, .bot] := by
  refine fn_ok (md := mdT) (ms := [false, false]) k_spec_l1Cut (by simp) ?_
  simp [c_spec_l1Cut]
  refine loop_by (fun m E H => ∃ (k f : Nat) (done : List (List UInt8)), m = s.length - k ∧ f ≤ k ∧ k ≤ s.length ∧ (∀ j : Nat, f ≤ j → j < k → s[j]? ≠ some c) ∧ done ++ cutL c (s.drop f) = cutL c s ∧ done.length ≤ k ∧ H = [some (.arr 1 (txs done))] ∧
    E = [(0, .v (tx s)), (1, .v (.int .u8 (c.toNat : Int))), (5, .ls 1 0 0 done.length), (6, .v (.int .i64 (f : Int))), (7, .v (.int .i64 (k : Int)))]) s.length ⟨0, 0, [], by simp⟩ ?_
  rintro J hJ m E H ⟨k, f, done, rfl, hf, hk, hno, hc, hd, rfl, rfl⟩
  by_cases h : k < s.length
  · by_cases he : s[k]? = some c
    · have he' : s[k] = c := by rw [List.getElem?_eq_getElem h] at he; simpa using he
      have hcut : cutL c (s.drop f) = (s.drop f).take (k - f) :: cutL c (s.drop (k + 1)) := by
        rw [cut_at (i := k - f) (by rw [List.getElem?_drop, show f + (k - f) = k by omega]; exact he) (fun j hj => by rw [List.getElem?_drop]; exact hno _ (by omega) (by omega))]
        rw [List.drop_drop, show f + (k - f + 1) = k + 1 by omega]
      have nx := hJ (s.length - (k + 1)) [(0, .v (tx s)), (1, .v (.int .u8 (c.toNat : Int))), (5, .ls 1 0 0 (done.length + 1)), (6, .v (.int .i64 ((k : Int) + 1))), (7, .v (.int .i64 ((k : Int) + 1)))] [some (.arr 1 (txs done ++ [.v (tx ((s.drop f).take (k - f)))]))]
        ⟨k + 1, k + 1, done ++ [(s.drop f).take (k - f)], rfl, by omega, by omega, fun j h1 h2 => by omega, by rw [List.append_assoc, ← hc, hcut]; rfl, by simp; omega, by rw [txs_append]; rfl, by simp⟩
      simp [c_spec_l1Cut_L0, h, he']
      exact ⟨⟨by omega, by omega⟩, ⟨by omega, by omega⟩, ⟨by omega, by omega⟩, _, by omega, nx⟩
    · have he' : ¬ s[k] = c := by rw [List.getElem?_eq_getElem h] at he; simpa using he
      have nx := hJ (s.length - (k + 1)) [(0, .v (tx s)), (1, .v (.int .u8 (c.toNat : Int))), (5, .ls 1 0 0 done.length), (6, .v (.int .i64 (f : Int))), (7, .v (.int .i64 ((k : Int) + 1)))] [some (.arr 1 (txs done))]
        ⟨k + 1, f, done, rfl, by omega, by omega, fun j h1 h2 => by
          by_cases hj : j = k
          · subst hj; exact he
          · exact hno j h1 (by omega), hc, by omega, rfl, by simp⟩
      simp [c_spec_l1Cut_L0, h, he']
      exact ⟨⟨by omega, by omega⟩, _, by omega, nx⟩
  · have hk' : k = s.length := by omega
    subst hk'
    have hcut : cutL c (s.drop f) = [s.drop f] := by
      refine cut_no fun j hj => ?_
      rw [List.getElem?_drop] at hj
      have : f + j < s.length := (List.getElem?_eq_some_iff.1 hj).1
      exact hno _ (by omega) this hj
    rw [← hc, hcut, txs_append, txs_one]
    simp [c_spec_l1Cut_L0]
    refine ⟨by omega, ⟨by omega, by omega⟩, ?_⟩
    rw [List.take_of_length_le (by simp), List.take_of_length_le (l := s.drop f) (by simp)]

end Go.Proofs.Dev

namespace Go.Proofs.Dev
open Go.RowKit
set_option linter.unusedSimpArgs false
set_option maxRecDepth 100000

theorem digs_drop {s : List UInt8} {k : Nat} (n : Int) (h : k < s.length) : digsT n (s.drop k) = if 48 ≤ s[k].toNat ∧ s[k].toNat ≤ 57 then digsT (10 * n + ((s[k].toNat : Int) - 48)) (s.drop (k + 1)) else none := by
  rw [List.drop_eq_getElem_cons h, digsT]

set_option maxHeartbeats 1000000 in
theorem s_spec_l1Digits (p : List UInt8) (hp : p.length < 2 ^ 30) : SoundAt Tryd.prog n_spec_l1Digits [.v (tx p)] (.v (.int .i64 (digT p))) [.bot] := by
  refine fn_ok (md := mdT) (ms := [false]) k_spec_l1Digits (by simp) ?_
  simp [c_spec_l1Digits]
  refine call_on (s_spec_l1In (p.length : Int) 1 4) ?_
  by_cases h0 : p.length = 0
  · have e : ¬ (1 ≤ (p.length : Int) ∧ (p.length : Int) ≤ 4) := by omega
    simp [digT, h0]
  by_cases h4 : 4 < p.length
  · have e : ¬ (1 ≤ (p.length : Int) ∧ (p.length : Int) ≤ 4) := by omega
    simp [digT, h4, e]
  have e : (1 ≤ (p.length : Int) ∧ (p.length : Int) ≤ 4) := by omega
  have hl : 0 < p.length := by omega
  have hhead : p.head? = some p[0] := by rw [List.head?_eq_getElem?, List.getElem?_eq_getElem hl]
  have c48 : ((p[0].toNat : Int) = 48) ↔ p[0] = 48 := by
    have := u8_inj p[0] 48
    simpa using this
  have loop : ∀ Qc : AExit → ES → Heap → Prop, (∀ E n, get E 2 = .v (.int .i64 0) ∨ True → get E 3 = .v (.int .i64 n) → digsT 0 p = some n → Qc (.exit 0) E []) → (∀ E, get E 2 = .v (.int .i64 (-1)) → digsT 0 p = none → Qc .ret E []) →
      loopNode [] [0, 3, 4] (awp Tryd.prog mdT c_spec_l1Digits_L0) Qc [(0, .v (tx p)), (3, .v (.int .i64 0)), (4, .v (.int .i64 0))] [] := by
    intro Qc q1 q2
    refine loop_by (fun m E H => ∃ (k : Nat) (n : Int), m = p.length - k ∧ k ≤ p.length ∧ 0 ≤ n ∧ n < 10 ^ k ∧ digsT n (p.drop k) = digsT 0 p ∧ H = [] ∧ E = [(0, .v (tx p)), (3, .v (.int .i64 n)), (4, .v (.int .i64 (k : Int)))]) p.length ⟨0, 0, by simp⟩ ?_
    rintro J hJ m E H ⟨k, n, rfl, hk, hn0, hn, hd, rfl, rfl⟩
    have h10 : (10 : Int) ^ k ≤ 10000 := by
      have : k = 0 ∨ k = 1 ∨ k = 2 ∨ k = 3 ∨ k = 4 := by omega
      rcases this with rfl | rfl | rfl | rfl | rfl <;> decide
    by_cases h : k < p.length
    · rw [digs_drop n h] at hd
      by_cases hc : 48 ≤ p[k].toNat ∧ p[k].toNat ≤ 57
      · rw [if_pos hc] at hd
        have a1 : ¬ ((p[k].toNat : Int) < 48) := by omega
        have a2 : ¬ ((57 : Int) < (p[k].toNat : Int)) := by omega
        have nx := hJ (p.length - (k + 1)) [(0, .v (tx p)), (3, .v (.int .i64 (10 * n + ((p[k].toNat : Int) - 48)))), (4, .v (.int .i64 ((k : Int) + 1)))] []
          ⟨k + 1, 10 * n + ((p[k].toNat : Int) - 48), rfl, by omega, by omega, by rw [Int.pow_succ]; omega, hd, rfl, by simp⟩
        simp [c_spec_l1Digits_L0, h, a1, a2]
        have hb : (p[k].toNat : Int) ≤ 57 := by omega
        have hb0 : (48 : Int) ≤ (p[k].toNat : Int) := by omega
        exact ⟨⟨by omega, by omega⟩, ⟨by omega, by omega⟩, ⟨by omega, by omega⟩, ⟨by omega, by omega⟩, ⟨by omega, by omega⟩, _, by omega, nx⟩
      · rw [if_neg hc] at hd
        by_cases a1 : (p[k].toNat : Int) < 48
        · simp [c_spec_l1Digits_L0, h, a1]
          exact q2 _ rfl hd.symm
        · have a2 : (57 : Int) < (p[k].toNat : Int) := by omega
          simp [c_spec_l1Digits_L0, h, a1, a2]
          exact q2 _ rfl hd.symm
    · have hk' : k = p.length := by omega
      subst hk'
      rw [List.drop_length] at hd
      simp [c_spec_l1Digits_L0]
      exact q1 _ n (.inr trivial) rfl hd.symm
  by_cases h1 : 1 < p.length
  · by_cases hz : p[0] = 48
    · have hg : (1 : Int) < (p.length : Int) := by omega
      simp [digT, h0, h4, e, h1, hg, hl, hhead, hz]
    · have hg : (1 : Int) < (p.length : Int) := by omega
      have ed : digT p = (digsT 0 p).getD (-1) := by
        unfold digT
        rw [if_neg]
        rintro (h | h | ⟨_, h⟩)
        · exact h0 h
        · exact h4 h
        · rw [hhead] at h; exact hz (by simpa using h)
      rw [ed]
      have c48' : ¬ ((p[0].toNat : Int) = 48) := fun h => hz (c48.1 h)
      simp [e, h1, hg, hz, hl, c48']
      refine loop _ ?_ ?_
      · intro E n _ h3 hd
        simp [h3, hd]
      · intro E h2 hd
        simp [h2, hd]
  · have ed : digT p = (digsT 0 p).getD (-1) := by
      unfold digT
      rw [if_neg]
      rintro (h | h | ⟨h, _⟩)
      · exact h0 h
      · exact h4 h
      · exact h1 h
    rw [ed]
    have hg : ¬ (1 : Int) < (p.length : Int) := by omega
    simp [e, h1, hg]
    refine loop _ ?_ ?_
    · intro E n _ h3 hd
      simp [h3, hd]
    · intro E h2 hd
      simp [h2, hd]

end Go.Proofs.Dev

namespace Go.Proofs.Dev
open Go.RowKit
set_option linter.unusedSimpArgs false
set_option maxRecDepth 100000

theorem rowC_take {W x : Nat} (cs : List Bool) (ds : List Int) (y : Nat) (h : x < W) : (rowC W cs ds y).take (x + 1) = (rowC W cs ds y).take x ++ [sgC cs ds (y * W + x)] := by
  rw [List.take_succ_eq_append_getElem (by simp [h])]
  simp [rowC]
theorem rowsC_ne (W : Nat) (cs : List Bool) (ds : List Int) {n : Nat} (h : 0 < n) : rowsC W cs ds n ≠ [] := by
  intro e
  have := congrArg List.length e
  simp at this
  omega
theorem rowsC_join (W : Nat) (cs : List Bool) (ds : List Int) {n : Nat} (h : 0 < n) : joinL 47 (rowsC W cs ds (n + 1)) = rowC W cs ds n ++ 47 :: joinL 47 (rowsC W cs ds n) := by
  rw [rowsC, joinL_cons 47 _ (rowsC_ne W cs ds h)]
theorem rowsC_join1 (W : Nat) (cs : List Bool) (ds : List Int) : joinL 47 (rowsC W cs ds 1) = rowC W cs ds 0 := rfl
theorem join_len {W : Nat} (cs : List Bool) (ds : List Int) : ∀ n : Nat, (joinL 47 (rowsC W cs ds n)).length ≤ n * (W + 1)
  | 0 => by simp [rowsC, joinL]
  | 1 => by rw [rowsC_join1]; simp
  | n + 2 => by
    rw [rowsC_join W cs ds (by omega)]
    have := join_len cs ds (n + 1) (W := W)
    have e : (n + 2) * (W + 1) = (n + 1) * (W + 1) + (W + 1) := by rw [show n + 2 = n + 1 + 1 by omega, Nat.succ_mul]
    simp
    omega

abbrev ptE (o : List UInt8) (ds : List Int) (y : Int) : ES := [(1, .sl 1 1 (ints ds)), (2, .lp 0 0 0 0), (5, .v (tx o)), (6, .v (.int .i64 y))]
abbrev ptE2 (o : List UInt8) (ds : List Int) (y x : Int) : ES := [(1, .sl 1 1 (ints ds)), (2, .lp 0 0 0 0), (5, .v (tx o)), (6, .v (.int .i64 y)), (7, .v (.int .i64 x))]

set_option maxHeartbeats 2000000 in
theorem pt_L0 (W T : Nat) (cs : List Bool) (ds : List Int) (o : List UInt8) (y : Nat) (hW : W ≤ 6) (hT : T ≤ 6) (hy : y < T) (hl : cs.length = T * W) (hd : digsB cs ds = true) (ho : o.length ≤ 100) (Qc : AExit → ES → Heap → Prop)
    (hend : ∀ E, get E 1 = .sl 1 1 (ints ds) → get E 2 = .lp 0 0 0 0 → get E 5 = .v (tx (o ++ rowC W cs ds y)) → get E 6 = .v (.int .i64 y) → Qc (.exit 2) E [some (.box [.v (.int .i64 W), .v (.int .i64 T), .sl 1 1 (bools cs)])]) :
    loopNode [(1, 1)] [1, 2, 5, 6, 7] (awp Tryd.prog mdT c_spec_PuzzleText_L0) Qc (ptE2 o ds y 0) [some (.box [.v (.int .i64 W), .v (.int .i64 T), .sl 1 1 (bools cs)])] := by
  refine loop_by (fun m E H => ∃ x : Nat, m = W - x ∧ x ≤ W ∧ E = ptE2 (o ++ (rowC W cs ds y).take x) ds y x ∧ H = [some (.box [.v (.int .i64 W), .v (.int .i64 T), .sl 1 1 (bools cs)])]) W ⟨0, by simp⟩ ?_
  rintro J hJ m E H ⟨x, rfl, hx, rfl, rfl⟩
  by_cases h : x < W
  · have h' : (x : Int) < (W : Int) := by omega
    have hc := cell_lt (T := T) hy h
    have hdd : ds.length = cs.length := by simp only [digsB, Bool.and_eq_true, decide_eq_true_eq] at hd; exact hd.1
    have hp : T * W ≤ 6 * 6 := Nat.mul_le_mul hT hW
    have e1 : (y : Int) * (W : Int) = ((y * W : Nat) : Int) := by simp
    have hk1 : (y * W + x : Int) < (cs.length : Int) := by rw [e1]; omega
    have hk2 : (y * W + x : Int) < (ds.length : Int) := by rw [e1]; omega
    have hk0 : (0 : Int) ≤ (y : Int) * (W : Int) := by rw [e1]; omega
    have hk3 : (y : Int) * (W : Int) ≤ 36 := by rw [e1]; omega
    have e2 : ((y : Int) * (W : Int) + (x : Int)) = ((y * W + x : Nat) : Int) := by rw [Int.natCast_add, e1]
    have tk := rowC_take cs ds y h
    have hlt : ((rowC W cs ds y).take x).length = x := by simp; omega
    have nx := hJ (W - (x + 1)) (ptE2 (o ++ (rowC W cs ds y).take (x + 1)) ds y ((x : Int) + 1)) _ ⟨x + 1, rfl, h, by simp, rfl⟩
    rw [tk, ← List.append_assoc] at nx
    generalize hr : o ++ (rowC W cs ds y).take x = r at *
    have hrl : r.length ≤ 106 := by rw [← hr]; simp; omega
    have hdg : digAt cs ds ((y : Int) * (W : Int) + (x : Int)) = true := by
      simp only [digsB, Bool.and_eq_true, decide_eq_true_eq, allB_iff] at hd
      rw [e2]
      exact hd.2 (y * W + x) (by omega)
    have es : sgC cs ds (y * W + x) = if atb cs ((y : Int) * (W : Int) + (x : Int)) then b8 (48 + ati ds ((y : Int) * (W : Int) + (x : Int))) else 46 := by rw [e2]; rfl
    rw [es] at nx
    unfold digAt at hdg
    cases hb : atb cs ((y : Int) * (W : Int) + (x : Int)) with
    | true =>
      rw [hb] at nx hdg
      simp at hdg nx
      have ln := s_spec_l1Number (ati ds ((y : Int) * (W : Int) + (x : Int))) (by omega) (by omega)
      rw [numT_lo (by omega)] at ln
      simp [c_spec_PuzzleText_L0, h', hb, hk1, hk2]
      (repeat' first | omega | apply And.intro) <;>
      · refine call_on ln ?_
        simp
        (repeat' first | omega | apply And.intro) <;> exact ⟨_, by omega, nx⟩
    | false =>
      rw [hb] at nx
      simp at nx
      simp [c_spec_PuzzleText_L0, h', hb, hk1, hk2]
      (repeat' first | omega | apply And.intro) <;> exact ⟨_, by omega, nx⟩
  · have : x = W := by omega
    subst this
    simp [c_spec_PuzzleText_L0]
    exact hend _ rfl rfl (by rw [List.take_of_length_le (by simp)]; rfl) rfl

set_option maxHeartbeats 2000000 in
theorem s_spec_PuzzleText (W T : Nat) (cs : List Bool) (ds : List Int) (hb : cs.length < 2 ^ 40) (hd : ds.length < 2 ^ 40) (hT : T < 2 ^ 40) :
    SoundAt Tryd.prog n_spec_PuzzleText [.agg [.v (.int .i64 W), .v (.int .i64 T), .sl 1 1 (bools cs)], .sl 1 1 (ints ds)] (.v (tx (ptext W T cs ds))) [.bot, .bot] := by
  have pv := s_spec_PuzzleValid W T cs ds hb hd
  refine fn_ok (md := mdT) (ms := [false, false]) k_spec_PuzzleText (by simp) ?_
  simp [c_spec_PuzzleText]
  refine ⟨by omega, ?_⟩
  by_cases hv : (regB W T cs && digsB cs ds) = true
  · rw [hv] at pv
    rw [ptext, if_pos hv]
    simp only [Int.toNat_natCast]
    simp only [Bool.and_eq_true] at hv
    obtain ⟨hr, hg⟩ := hv
    simp only [regB, decide_eq_true_eq] at hr
    obtain ⟨w1, w2, t1, t2, hl, _⟩ := hr
    have hl' : cs.length = T * W := by
      have : (cs.length : Int) = ((T * W : Nat) : Int) := by rw [hl, Int.natCast_mul, Int.mul_comm]
      exact Int.ofNat.inj this
    have tot := join_len cs ds T (W := W)
    have hp : T * (W + 1) ≤ 6 * 7 := Nat.mul_le_mul (by omega) (by omega)
    refine loop_by (fun m E H => ∃ (n : Nat) (o : List UInt8), n = m ∧ n ≤ T ∧ o ++ joinL 47 (rowsC W cs ds n) = joinL 47 (rowsC W cs ds T) ∧ E = ptE o ds ((n : Int) - 1) ∧ H = [some (.box [.v (.int .i64 W), .v (.int .i64 T), .sl 1 1 (bools cs)])]) T ⟨T, [], by simp⟩ ?_
    rintro J hJ m E H ⟨n, o, rfl, hn, ho, rfl, rfl⟩
    cases n with
    | zero =>
      have ho' : o = joinL 47 (rowsC W cs ds T) := by simpa [rowsC, joinL] using ho
      subst ho'
      simp [c_spec_PuzzleText_L1]
    | succ n =>
      have lo : o.length ≤ 42 := by have := congrArg List.length ho; rw [List.length_append] at this; omega
      have e1 : ((n + 1 : Nat) : Int) - 1 = (n : Int) := by omega
      rw [e1]
      have body := fun Qc hend => pt_L0 W T cs ds o n (by omega) (by omega) (by omega) hl' hg (by omega) Qc hend
      simp [c_spec_PuzzleText_L1]
      refine call_on pv ?_
      simp
      refine body _ ?_
      intro E g1 g2 g5 g6
      have lr : (o ++ rowC W cs ds n).length ≤ 48 := by simp; omega
      cases n with
      | zero =>
        have nx := hJ 0 (ptE (o ++ rowC W cs ds 0) ds (-1)) _ ⟨0, _, rfl, by omega, by rw [← ho, rowsC_join1]; simp [rowsC, joinL], rfl, rfl⟩
        simp [g1, g2, g5, g6]
        exact ⟨_, by omega, nx⟩
      | succ n =>
        have nx := hJ (n + 1) (ptE (o ++ rowC W cs ds (n + 1) ++ [47]) ds (n : Int)) _ ⟨n + 1, o ++ rowC W cs ds (n + 1) ++ [47], rfl, by omega, by rw [← ho, rowsC_join W cs ds (by omega : 0 < n + 1)]; simp, by rw [show ((n + 1 : Nat) : Int) - 1 = (n : Int) by omega], rfl⟩
        have hpos : (0 : Int) < (n : Int) + 1 := by omega
        generalize o ++ rowC W cs ds (n + 1) = r at *
        simp [g1, g2, g5, g6, hpos]
        exact ⟨by omega, by omega, _, by omega, nx⟩
  · have hv' : (regB W T cs && digsB cs ds) = false := by simpa using hv
    rw [ptext, if_neg hv]
    rw [hv'] at pv
    refine loop_by (fun m E H => m = 0 ∧ E = ptE [] ds ((T : Int) - 1) ∧ H = [some (.box [.v (.int .i64 W), .v (.int .i64 T), .sl 1 1 (bools cs)])]) 0 ⟨rfl, rfl, rfl⟩ ?_
    rintro J hJ m E H ⟨rfl, rfl, rfl⟩
    by_cases h0 : 1 ≤ T
    · have h0' : (1 : Int) ≤ (T : Int) := by omega
      simp [c_spec_PuzzleText_L1, h0', h0]
      refine call_on pv ?_
      simp
    · have h0' : ¬ (1 : Int) ≤ (T : Int) := by omega
      have : T = 0 := by omega
      subst this
      simp [c_spec_PuzzleText_L1]

end Go.Proofs.Dev

namespace Go.Proofs.Dev
open Go.RowKit
set_option linter.unusedSimpArgs false
set_option maxRecDepth 100000


def nd1 (c : UInt8) : Bool := ((c.toNat : Int) != 46)
def d1 (c : UInt8) : Int := digT [c]
theorem nd1_eq : nd1 = fun c => !decide (c.toNat = 46) := by
  funext c
  unfold nd1
  by_cases h : c.toNat = 46
  · simp [h]
  · have : ¬ (c.toNat : Int) = 46 := by omega
    simp [h, this]

abbrev rpE (s : List UInt8) (ps : List (List UInt8)) (k : Nat) (y : Int) : ES := [(0, .v (tx s)), (2, .lp 0 0 0 0), (5, .ls 1 1 0 ps.length), (6, .lp 0 2 0 0), (7, .ls 1 3 0 k), (8, .v (.int .i64 y))]
abbrev rpE2 (s : List UInt8) (ps : List (List UInt8)) (k : Nat) (y x : Int) : ES := [(0, .v (tx s)), (2, .lp 0 0 0 0), (5, .ls 1 1 0 ps.length), (6, .lp 0 2 0 0), (7, .ls 1 3 0 k), (8, .v (.int .i64 y)), (9, .v (.int .i64 x))]
def rpH (ps : List (List UInt8)) (w t : Int) (fl : List UInt8) : Heap :=
  if fl = [] then [some (.box [.v (.int .i64 0), .v (.int .i64 0), .os 1 []]), some (.arr 1 (txs ps)), some (.box [.v (.int .i64 w), .v (.int .i64 t), .os 1 []]), some (.arr 1 [])]
  else [some (.box [.v (.int .i64 0), .v (.int .i64 0), .os 1 []]), some (.arr 1 (txs ps)), some (.box [.v (.int .i64 w), .v (.int .i64 t), .ls 1 4 0 fl.length]), some (.arr 1 (ints (fl.map d1))), some (.arr 1 (bools (fl.map nd1)))]
theorem rpH_nil (ps : List (List UInt8)) (w t : Int) : rpH ps w t [] = [some (.box [.v (.int .i64 0), .v (.int .i64 0), .os 1 []]), some (.arr 1 (txs ps)), some (.box [.v (.int .i64 w), .v (.int .i64 t), .os 1 []]), some (.arr 1 [])] := rfl
theorem rpH_cons (ps : List (List UInt8)) (w t : Int) {fl : List UInt8} (h : fl ≠ []) : rpH ps w t fl = [some (.box [.v (.int .i64 0), .v (.int .i64 0), .os 1 []]), some (.arr 1 (txs ps)), some (.box [.v (.int .i64 w), .v (.int .i64 t), .ls 1 4 0 fl.length]), some (.arr 1 (ints (fl.map d1))), some (.arr 1 (bools (fl.map nd1)))] := if_neg h
theorem rpH_one (ps : List (List UInt8)) (w t : Int) (fl : List UInt8) : (rpH ps w t fl)[1]? = some (some (.arr 1 (txs ps))) := by unfold rpH; split <;> rfl

set_option maxHeartbeats 4000000 in
theorem rp_L0 (s : List UInt8) (ps : List (List UInt8)) (w t : Int) (fl : List UInt8) (y : Nat) (hy : y < ps.length) (hp : ps[y].length < 2 ^ 31) (hf : fl.length < 2 ^ 31) (Qc : AExit → ES → Heap → Prop)
    (hend : ∀ E, get E 0 = .v (tx s) → get E 2 = .lp 0 0 0 0 → get E 5 = .ls 1 1 0 ps.length → get E 6 = .lp 0 2 0 0 → get E 7 = .ls 1 3 0 (fl ++ ps[y]).length → get E 8 = .v (.int .i64 y) → Qc (.exit 2) E (rpH ps w t (fl ++ ps[y]))) :
    loopNode [(5, 1), (7, 1)] [0, 2, 5, 6, 7, 8, 9] (awp Tryd.prog mdT c_spec_ReadPuzzle_L0) Qc (rpE2 s ps fl.length y 0) (rpH ps w t fl) := by
  refine loop_by (fun m E H => ∃ x : Nat, m = ps[y].length - x ∧ x ≤ ps[y].length ∧ E = rpE2 s ps (fl ++ ps[y].take x).length y x ∧ H = rpH ps w t (fl ++ ps[y].take x)) ps[y].length ⟨0, by simp⟩ ?_
  rintro J hJ m E H ⟨x, rfl, hx, rfl, rfl⟩
  by_cases h : x < ps[y].length
  · have h' : (x : Int) < (ps[y].length : Int) := by omega
    have dg := s_spec_l1Digits [ps[y][x]] (by simp)
    have hx1 : (0 : Int) ≤ (x : Int) + 1 := by omega
    have hx2 : x + 1 ≤ ps[y].length := h
    have nx := hJ (ps[y].length - (x + 1)) (rpE2 s ps (fl ++ ps[y].take (x + 1)).length y ((x : Int) + 1)) _ ⟨x + 1, rfl, h, by simp, rfl⟩
    have hl : (fl ++ ps[y].take x).length < 2 ^ 32 := by simp; omega
    have e1 : fl ++ ps[y].take (x + 1) = (fl ++ ps[y].take x) ++ [ps[y][x]] := by rw [List.take_succ_eq_append_getElem h]; simp
    rw [e1] at nx
    have et : List.take (x + 1 - x) (List.drop x ps[y]) = [ps[y][x]] := by
      rw [show x + 1 - x = 1 by omega, List.drop_eq_getElem_cons h]
      rfl
    have et1 : List.take 1 (List.drop x ps[y]) = [ps[y][x]] := by rw [← et, show x + 1 - x = 1 by omega]
    generalize fl ++ ps[y].take x = f at *
    rw [rpH_cons _ _ _ (by simp)] at nx
    simp only [List.map_append, List.map_cons, List.map_nil, ints_append, bools_append, ints_one, bools_one, List.length_append, List.length_cons, List.length_nil, d1, nd1] at nx
    by_cases hf0 : f = []
    · subst hf0
      rw [rpH_nil]
      simp at nx
      simp [c_spec_ReadPuzzle_L0, hy, h, h', hx1, hx2]
      (repeat' first | omega | apply And.intro) <;>
      · refine call_on dg ?_
        simp
        (repeat' first | exact et | exact et1 | omega | exact ⟨_, by omega, nx⟩ | apply And.intro)
    · rw [rpH_cons _ _ _ hf0]
      simp [c_spec_ReadPuzzle_L0, hy, h, h', hx1, hx2]
      (repeat' first | omega | apply And.intro) <;>
      · refine call_on dg ?_
        simp
        (repeat' first | exact et | exact et1 | omega | exact ⟨_, by omega, nx⟩ | apply And.intro)
  · have : x = ps[y].length := by omega
    subst this
    rw [List.take_length]
    simp [c_spec_ReadPuzzle_L0, hy, rpH_one]
    apply hend
    all_goals (first | rfl | simp)

/-- What is read of a text. -/
def rpA (s : List UInt8) : AV := if riB s = true then .tup [.agg [.v (.int .i64 (wT s)), .v (.int .i64 (tT s)), .os 1 (bools (csT s))], .os 1 (ints (dsI s)), .v (.bool true)]
  else .tup [.agg [.v (.int .i64 0), .v (.int .i64 0), .os 1 []], .os 1 [], .v (.bool false)]

theorem flat_le (c : UInt8) : ∀ s : List UInt8, (cutL c s).reverse.flatten.length ≤ s.length
  | [] => by simp [cutL]
  | x :: s => by
    have ih := flat_le c s
    obtain ⟨p, ps, e⟩ := cutL_cons c s
    rw [cutL]
    split
    · simp at ih ⊢; omega
    · rw [e] at ih ⊢
      simp at ih ⊢
      omega

set_option maxHeartbeats 2000000 in
theorem s_spec_ReadPuzzle (s : List UInt8) (hs : s.length < 2 ^ 30) : SoundAt Tryd.prog n_spec_ReadPuzzle [.v (tx s)] (rpA s) [.bot] := by
  have cu := s_spec_l1Cut s 47 hs
  have hlen := cutL_le 47 s
  have hfl : (flT s).length ≤ s.length := flat_le 47 s
  have pt := s_spec_PuzzleText (wT s) (tT s) (csT s) (dsT s) (by simp [csT]; omega) (by simp [dsT]; omega) (by unfold tT; omega)
  have hri := rp_ri s
  have hmap : rpH (cutL 47 s) (wT s) (tT s) (flT s) = if flT s = [] then _ else _ := rfl
  have hrp : rpB s = (decide (s ≠ []) && decide (ptext (wT s) (tT s) (csT s) (dsT s) = s)) := rfl
  have e1 : (flT s).map d1 = dsT s := rfl
  have e2 : (flT s).map nd1 = csT s := by rw [nd1_eq]; rfl
  have e3 : riB s = true → dsT s = dsI s := fun h => dsT_ok (by simp only [riB, Bool.and_eq_true] at h; exact h.1.2)
  have e4 : flT s = (cutL 47 s).reverse.flatten := rfl
  have e5 : wT s = (nth (cutL 47 s) 0).length := rfl
  have e6 : tT s = (cutL 47 s).length := rfl
  have hea := cutL_each 47 s
  refine fn_ok (md := mdT) (ms := [false]) k_spec_ReadPuzzle (by simp) ?_
  simp [c_spec_ReadPuzzle]
  refine call_on cu ?_
  obtain ⟨p, qs, hps⟩ := cutL_cons 47 s
  have h0 : 0 < (cutL 47 s).length := by rw [hps]; simp
  generalize cutL 47 s = ps at *
  have hg : ps[0] = nth ps 0 := by simp [nth, h0]
  have hw : (ps[0].length : Int) = (wT s : Int) := by rw [hg, e5]
  simp [h0]
  refine ⟨by omega, ?_⟩
  refine loop_by (fun m E H => ∃ (n : Nat) (f : List UInt8), n = m ∧ n ≤ ps.length ∧ f ++ (ps.take n).reverse.flatten = flT s ∧ E = rpE s ps f.length ((n : Int) - 1) ∧ H = rpH ps (wT s) (tT s) f) ps.length ⟨ps.length, [], by simp [e4, rpH_nil, hw, e6]⟩ ?_
  rintro J hJ m E H ⟨n, f, rfl, hn, hf, rfl, rfl⟩
  have hfb : f.length ≤ (flT s).length := by rw [← hf]; simp
  cases n with
  | succ n =>
    have hn' : n < ps.length := by omega
    have hpn := hea ps[n] (List.getElem_mem hn')
    have hc : ((n + 1 : Nat) : Int) - 1 = (n : Int) := by omega
    have body := fun Qc hend => rp_L0 s ps (wT s) (tT s) f n hn' (by omega) (by omega) Qc hend
    have nx := hJ n (rpE s ps (f ++ ps[n]).length ((n : Int) - 1)) _ ⟨n, f ++ ps[n], rfl, by omega, by rw [← hf, List.take_succ_eq_append_getElem hn', List.reverse_append]; simp, rfl, rfl⟩
    rw [hc]
    have tail : ∀ (E : ES), get E 0 = .v (tx s) → get E 2 = .lp 0 0 0 0 → get E 5 = .ls 1 1 0 ps.length → get E 6 = .lp 0 2 0 0 → get E 7 = .ls 1 3 0 (f ++ ps[n]).length → get E 8 = .v (.int .i64 n) → ∀ Q1,
        awp Tryd.prog mdT (ACode.reg [AOper.m 25 8, AOper.o 26 (AK.bin BinOp.sub 0) [Opd.t 25, Opd.k 1], AOper.m 8 26]) (loopQ [(5, 1), (7, 1)] [0, 2, 5, 6, 7, 8] J (n + 1) Q1) E (rpH ps (wT s) (tT s) (f ++ ps[n])) := by
      intro E g0 g2 g5 g6 g7 g8 Q1
      have lb : (f ++ ps[n]).length < 2 ^ 31 := by simp; omega
      generalize f ++ ps[n] = f2 at *
      by_cases hf2 : f2 = []
      · subst hf2
        rw [rpH_nil] at nx ⊢
        simp [g0, g2, g5, g6, g7, g8]
        exact ⟨by omega, _, by omega, nx⟩
      · rw [rpH_cons _ _ _ hf2] at nx ⊢
        simp [g0, g2, g5, g6, g7, g8]
        exact ⟨by omega, _, by omega, nx⟩
    by_cases hf0 : f = []
    · subst hf0
      rw [rpH_nil] at body ⊢
      simp [c_spec_ReadPuzzle_L1]
      refine body _ ?_
      intro E g0 g2 g5 g6 g7 g8
      simp only [ablock_exit, if_true, athen_normal]
      exact tail E g0 g2 g5 g6 g7 g8 _
    · rw [rpH_cons _ _ _ hf0] at body ⊢
      simp [c_spec_ReadPuzzle_L1]
      refine body _ ?_
      intro E g0 g2 g5 g6 g7 g8
      simp only [ablock_exit, if_true, athen_normal]
      exact tail E g0 g2 g5 g6 g7 g8 _
  | zero =>
    have hf' : f = flT s := by simpa using hf
    subst hf'
    have rA : rpA s = if rpB s = true then .tup [.agg [.v (.int .i64 (wT s)), .v (.int .i64 (tT s)), .os 1 (bools (csT s))], .os 1 (ints (dsT s)), .v (.bool true)]
        else .tup [.agg [.v (.int .i64 0), .v (.int .i64 0), .os 1 []], .os 1 [], .v (.bool false)] := by
      rw [hri, rpA]
      by_cases h : riB s = true
      · rw [if_pos h, if_pos h, e3 h]
      · rw [if_neg h, if_neg h]
    rw [rA]
    have lc : (csT s).length = (flT s).length := by simp [csT]
    have ld : (dsT s).length = (flT s).length := by simp [dsT]
    have lds : (dsT s).length = (csT s).length := by omega
    have tk1 : List.take (csT s).length (ints (dsT s)) = ints (dsT s) := List.take_of_length_le (by simp; omega)
    have tk2 : List.take (csT s).length (bools (csT s)) = bools (csT s) := List.take_of_length_le (by simp)
    clear hJ hri rA e3 e4 hf
    by_cases hs0 : s = []
    · have hb : rpB s = false := by rw [hrp]; simp [hs0]
      rw [hb]
      subst hs0
      have h1 : flT [] ≠ [] ∨ flT [] = [] := by by_cases h : flT [] = [] <;> simp [h]
      rcases h1 with h1 | h1
      · exact absurd (show flT [] = [] from rfl) h1
      · rw [h1, rpH_nil]
        simp [c_spec_ReadPuzzle_L1]
    · by_cases hp : ptext (wT s) (tT s) (csT s) (dsT s) = s
      · have hb : rpB s = true := by rw [hrp]; simp [hs0, hp]
        rw [hb]
        rw [hp] at pt
        by_cases h1 : flT s = []
        · have c0 : csT s = [] := by rw [csT, h1]; rfl
          have d0 : dsT s = [] := by rw [dsT, h1]; rfl
          rw [c0, d0] at pt ⊢
          rw [h1, rpH_nil]
          simp at pt
          simp [c_spec_ReadPuzzle_L1, hs0]
          refine call_on pt ?_
          simp
        · rw [rpH_cons _ _ _ h1, e1, e2, ← lc]
          simp [c_spec_ReadPuzzle_L1, hs0]
          refine call_on pt ?_
          simp [tk1, tk2, hs0, lds]
      · have hb : rpB s = false := by rw [hrp]; simp [hp]
        rw [hb]
        generalize ptext (wT s) (tT s) (csT s) (dsT s) = o at *
        by_cases h1 : flT s = []
        · have c0 : csT s = [] := by rw [csT, h1]; rfl
          have d0 : dsT s = [] := by rw [dsT, h1]; rfl
          rw [c0, d0] at pt
          rw [h1, rpH_nil]
          simp at pt
          simp [c_spec_ReadPuzzle_L1, hs0]
          refine call_on pt ?_
          simp [hp]
        · rw [rpH_cons _ _ _ h1, e1, e2, ← lc]
          simp [c_spec_ReadPuzzle_L1, hs0]
          refine call_on pt ?_
          simp [tk1, tk2, hs0, hp, lds]

end Go.Proofs.Dev

namespace Go.Proofs.Dev
set_option linter.unusedSimpArgs false
set_option maxRecDepth 100000

end Go.Proofs.Dev

namespace Go.Proofs.Dev

end Go.Proofs.Dev

namespace Go.Proofs.Dev
set_option linter.unusedSimpArgs false
set_option maxRecDepth 100000

end Go.Proofs.Dev

namespace Go.Proofs
end Go.Proofs

namespace Go.Proofs.Dev
set_option linter.unusedSimpArgs false
set_option maxRecDepth 100000

end Go.Proofs.Dev

namespace Go.Proofs.Dev
set_option linter.unusedSimpArgs false
set_option maxRecDepth 100000

end Go.Proofs.Dev

namespace Go.Proofs.Dev

end Go.Proofs.Dev

namespace Go.Proofs.Dev
set_option linter.unusedSimpArgs false
set_option maxRecDepth 100000

def fullAt (cs : List Bool) (ls : List Int) (k : Int) : Bool := !(atb cs k && decide (ati ls k = 0))
/-- Every cell of the region has a domino. -/
def fullB (cs : List Bool) (ls : List Int) : Bool := allB cs.length (fun k => fullAt cs ls k)
end Go.Proofs.Dev
