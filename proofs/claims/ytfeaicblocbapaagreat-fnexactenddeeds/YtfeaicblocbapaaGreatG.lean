/- Contracts of the functions of the program over slots and rows, each proved against the program itself; no condition beyond those that each theorem names. -/
import Derived.Test.YtfeaicblocbapaaGreatF

set_option linter.unusedSimpArgs false
set_option linter.unusedVariables false

namespace Go.Proofs.Dev
set_option linter.unusedSimpArgs false
set_option maxRecDepth 100000

@[simp] def md0 (f : Nat) : List Bool := if f = 38 ∨ f = 39 ∨ f = 65 ∨ f = 12 ∨ f = 40 then [true, false] else if f = 99 ∨ f = 97 ∨ f = 101 ∨ f = 109 ∨ f = 110 then [true] else []

theorem s_laws_szBoolS (bs : List Bool) (left : Int) (h0 : 0 ≤ left) (h1 : left < 2 ^ 60) (hb : bs.length ≤ 9223372036854775807) :
    SoundAt Tryz.prog n_laws_szBoolS [.sl 1 1 (bools bs), .v (.int .i64 left)] (.v (.int .i64 (if left < bs.length then -1 else left - bs.length))) [.bot, .bot] := by
  refine fn_ok (md := md0) (ms := [false, false]) k_laws_szBoolS (by simp) ?_
  simp [c_laws_szBoolS]
  omega

theorem s_laws_szRegion (W T : Int) (bs : List Bool) (left : Int) (h0 : 0 ≤ left) (h1 : left < 2 ^ 60) (hb : bs.length ≤ 9223372036854775807) :
    SoundAt Tryz.prog n_laws_szRegion [.agg [.v (.int .i64 W), .v (.int .i64 T), .sl 1 1 (bools bs)], .v (.int .i64 left)] (.v (.int .i64 (if left < bs.length then -1 else left - bs.length))) [.bot, .bot] := by
  refine fn_ok (md := md0) (ms := [false, false]) k_laws_szRegion (by simp) ?_
  simp [c_laws_szRegion]
  refine call_on (s_laws_szBoolS bs left h0 h1 hb) ?_
  simp
  split <;> omega

/-- A copy, half done. -/
theorem set_half {α : Type} (xs : List α) (z d : α) (i : Nat) (hi : i < xs.length) : (xs.take i ++ List.replicate (xs.length - i) z).set i (xs.getD i d) = xs.take (i + 1) ++ List.replicate (xs.length - (i + 1)) z := by
  have hd : xs.getD i d = xs[i] := by simp [hi]
  have hl : (List.take i xs).length = i := by simp; omega
  rw [List.set_append_right _ _ (by omega), List.take_succ_eq_append_getElem hi, hd, hl, Nat.sub_self, show xs.length - i = (xs.length - (i + 1)) + 1 by omega, List.replicate_succ, List.set_cons_zero, List.append_assoc]
  rfl

theorem s_laws_toBoolS (bs : List Bool) (hb : bs.length < 2 ^ 40) :
    SoundAt Tryz.prog n_laws_toBoolS [.sl 1 1 (bools bs)] (.os 1 (bools bs)) [.bot] := by
  refine fn_ok (md := md0) (ms := [false]) k_laws_toBoolS (by simp) ?_
  simp [c_laws_toBoolS]
  refine ⟨by omega, ?_⟩
  refine loop_by (fun m E H => ∃ i : Nat, m = bs.length - i ∧ i ≤ bs.length ∧ H = [some (.arr 1 (bools (bs.take i ++ List.replicate (bs.length - i) false)))] ∧ E = [(0, .sl 1 1 (bools bs)), (3, .ls 1 0 0 bs.length), (4, .v (.int .i64 i))]) bs.length ⟨0, by simp [bools_rep]⟩ ?_
  rintro J hJ m E H ⟨i, rfl, hi, rfl, rfl⟩
  simp [c_laws_toBoolS_L0]
  refine ⟨fun h => ?_, fun h => ?_⟩
  · simp [h]
    refine ⟨by omega, by omega, _, ?_, hJ _ _ _ ⟨i + 1, rfl, h, ?_, rfl⟩⟩
    · omega
    · rw [bools_set, atb_nat, set_half bs false false i h]
  · have : i = bs.length := by omega
    subst this
    simp

theorem s_laws_toIntS (bs : List Int) (hb : bs.length < 2 ^ 40) :
    SoundAt Tryz.prog n_laws_toIntS [.sl 1 1 (ints bs)] (.os 1 (ints bs)) [.bot] := by
  refine fn_ok (md := md0) (ms := [false]) k_laws_toIntS (by simp) ?_
  simp [c_laws_toIntS]
  refine ⟨by omega, ?_⟩
  refine loop_by (fun m E H => ∃ i : Nat, m = bs.length - i ∧ i ≤ bs.length ∧ H = [some (.arr 1 (ints (bs.take i ++ List.replicate (bs.length - i) 0)))] ∧ E = [(0, .sl 1 1 (ints bs)), (3, .ls 1 0 0 bs.length), (4, .v (.int .i64 i))]) bs.length ⟨0, by simp [ints_rep]⟩ ?_
  rintro J hJ m E H ⟨i, rfl, hi, rfl, rfl⟩
  simp [c_laws_toIntS_L0]
  refine ⟨fun h => ?_, fun h => ?_⟩
  · simp [h]
    refine ⟨by omega, by omega, _, ?_, hJ _ _ _ ⟨i + 1, rfl, h, ?_, rfl⟩⟩
    · omega
    · rw [ints_set, ati_nat, set_half bs 0 0 i h]
  · have : i = bs.length := by omega
    subst this
    simp

theorem s_laws_toRegion (W T : Int) (bs : List Bool) (hb : bs.length < 2 ^ 40) :
    SoundAt Tryz.prog n_laws_toRegion [.agg [.v (.int .i64 W), .v (.int .i64 T), .sl 1 1 (bools bs)]] (.agg [.v (.int .i64 W), .v (.int .i64 T), .os 1 (bools bs)]) [.bot] := by
  refine fn_ok (md := md0) (ms := [false]) k_laws_toRegion (by simp) ?_
  simp [c_laws_toRegion]
  refine call_on (s_laws_toBoolS bs hb) ?_
  simp

theorem s_slices_Clip_int_int (xs : List Int) : SoundAt Tryz.prog n_slices_Clip_int_int [.os 1 (ints xs)] (.os 1 (ints xs)) [.bot] := by
  refine fn_ok (md := md0) (ms := [false]) k_slices_Clip_int_int (by simp) ?_
  simp [c_slices_Clip_int_int]

theorem set_mid {α : Type} (X bs : List α) (i : Nat) (v : α) (hX : X.length = i) (hi : i < bs.length) : (X ++ bs.drop i).set i v = (X ++ [v]) ++ bs.drop (i + 1) := by
  rw [List.set_append_right _ _ (by omega), hX, Nat.sub_self, List.drop_eq_getElem_cons hi, List.set_cons_zero, List.append_assoc]
  rfl

def marksB (n : Nat) (k : Int) : List Bool := (List.range n).map fun (j : Nat) => (k + j) % 3 == 0
def marksI (n : Nat) (k : Int) : List Int := (List.range n).map fun (j : Nat) => k + j

theorem s_laws_eqBoolS (xs ys : List Bool) (ha : xs.length < 2 ^ 40) :
    SoundAt Tryz.prog n_laws_eqBoolS [.sl 1 1 (bools xs), .sl 1 1 (bools ys)] (.v (.bool (decide (xs = ys)))) [.bot, .bot] := by
  refine fn_ok (md := md0) (ms := [false, false]) k_laws_eqBoolS (by simp) ?_
  simp [c_laws_eqBoolS]
  refine ⟨fun h => ?_, fun hl => ?_⟩
  · intro e; subst e; exact h rfl
  refine loop_by (fun m E H => ∃ i : Nat, m = xs.length - i ∧ i ≤ xs.length ∧ xs.take i = ys.take i ∧ H = [] ∧ E = [(0, .sl 1 1 (bools xs)), (1, .sl 1 1 (bools ys)), (5, .v (.int .i64 i))]) xs.length ⟨0, by simp⟩ ?_
  rintro J hJ m E H ⟨i, rfl, hi, he, rfl, rfl⟩
  simp [c_laws_eqBoolS_L0]
  refine ⟨fun h => ?_, fun h => ?_⟩
  · have h2 : i < ys.length := by omega
    simp [h, h2]
    have key : (atb xs i = atb ys i) → xs.take (i + 1) = ys.take (i + 1) := by
      intro e
      rw [List.take_succ_eq_append_getElem h, List.take_succ_eq_append_getElem (by omega), he]
      simp [atb, h, show i < ys.length by omega] at e
      rw [e]
    have key2 : ¬ (atb xs i = atb ys i) → xs ≠ ys := fun e e2 => e (by rw [e2])
    refine ⟨fun e => ?_, fun e => ?_⟩
    · exact key2 (by simpa using e)
    · exact ⟨by omega, _, by omega, hJ _ _ _ ⟨i + 1, rfl, h, key (by simpa using e), rfl, rfl⟩⟩
  · have h1 : i = xs.length := by omega
    subst h1
    rw [List.take_length] at he
    rw [he]
    exact List.take_of_length_le (by omega)

theorem s_laws_eqIntS (xs ys : List Int) (ha : xs.length < 2 ^ 40) :
    SoundAt Tryz.prog n_laws_eqIntS [.sl 1 1 (ints xs), .sl 1 1 (ints ys)] (.v (.bool (decide (xs = ys)))) [.bot, .bot] := by
  refine fn_ok (md := md0) (ms := [false, false]) k_laws_eqIntS (by simp) ?_
  simp [c_laws_eqIntS]
  refine ⟨fun h => ?_, fun hl => ?_⟩
  · intro e; subst e; exact h rfl
  refine loop_by (fun m E H => ∃ i : Nat, m = xs.length - i ∧ i ≤ xs.length ∧ xs.take i = ys.take i ∧ H = [] ∧ E = [(0, .sl 1 1 (ints xs)), (1, .sl 1 1 (ints ys)), (5, .v (.int .i64 i))]) xs.length ⟨0, by simp⟩ ?_
  rintro J hJ m E H ⟨i, rfl, hi, he, rfl, rfl⟩
  simp [c_laws_eqIntS_L0]
  refine ⟨fun h => ?_, fun h => ?_⟩
  · have h2 : i < ys.length := by omega
    simp [h, h2]
    have key : (ati xs i = ati ys i) → xs.take (i + 1) = ys.take (i + 1) := by
      intro e
      rw [List.take_succ_eq_append_getElem h, List.take_succ_eq_append_getElem (by omega), he]
      simp [ati, h, show i < ys.length by omega] at e
      rw [e]
    have key2 : ¬ (ati xs i = ati ys i) → xs ≠ ys := fun e e2 => e (by rw [e2])
    refine ⟨fun e => ?_, fun e => ?_⟩
    · exact key2 (by simpa using e)
    · exact ⟨by omega, _, by omega, hJ _ _ _ ⟨i + 1, rfl, h, key (by simpa using e), rfl, rfl⟩⟩
  · have h1 : i = xs.length := by omega
    subst h1
    rw [List.take_length] at he
    rw [he]
    exact List.take_of_length_le (by omega)

theorem s_laws_markBoolS (bs : List Bool) (k : Int) (h0 : 0 ≤ k) (h1 : k < 2 ^ 40) (hb : bs.length < 2 ^ 40) :
    SoundAt Tryz.prog n_laws_markBoolS [.os 1 (bools bs), .v (.int .i64 k)] (.v (.int .i64 (k + bs.length))) [.os 1 (bools (marksB bs.length k)), .bot] := by
  refine fn_ok (md := md0) (ms := [true, false]) k_laws_markBoolS (by simp) ?_
  simp [c_laws_markBoolS]
  refine loop_by (fun m E H => ∃ i : Nat, m = bs.length - i ∧ i ≤ bs.length ∧ H = [some (.arr 1 (bools (marksB i k ++ bs.drop i)))] ∧ E = [(0, .ls 1 0 0 bs.length), (1, .v (.int .i64 (k + i))), (5, .v (.int .i64 i)), (21, .ls 1 0 0 bs.length)]) bs.length ⟨0, by simp [marksB]⟩ ?_
  rintro J hJ m E H ⟨i, rfl, hi, rfl, rfl⟩
  simp [c_laws_markBoolS_L0]
  refine ⟨fun h => ?_, fun h => ?_⟩
  · simp [h]
    have e : (bools (marksB i k ++ bs.drop i)).set i (.v (.bool ((k + i) % 3 == 0))) = bools (marksB (i + 1) k ++ bs.drop (i + 1)) := by
      rw [bools_set, set_mid _ _ _ _ (by simp [marksB]) h, marksB, marksB, List.range_succ, List.map_append]; rfl
    simp [marksB] at e ⊢
    refine ⟨by omega, by omega, by omega, by omega, _, ?_, hJ _ _ _ ⟨i + 1, rfl, h, ?_, ?_⟩⟩
    · omega
    · simp [marksB, e]
    · simp; omega
  · have : i = bs.length := by omega
    subst this
    simp [marksB]

theorem s_laws_markIntS (bs : List Int) (k : Int) (h0 : 0 ≤ k) (h1 : k < 2 ^ 40) (hb : bs.length < 2 ^ 40) :
    SoundAt Tryz.prog n_laws_markIntS [.os 1 (ints bs), .v (.int .i64 k)] (.v (.int .i64 (k + bs.length))) [.os 1 (ints (marksI bs.length k)), .bot] := by
  refine fn_ok (md := md0) (ms := [true, false]) k_laws_markIntS (by simp) ?_
  simp [c_laws_markIntS]
  refine loop_by (fun m E H => ∃ i : Nat, m = bs.length - i ∧ i ≤ bs.length ∧ H = [some (.arr 1 (ints (marksI i k ++ bs.drop i)))] ∧ E = [(0, .ls 1 0 0 bs.length), (1, .v (.int .i64 (k + i))), (5, .v (.int .i64 i)), (19, .ls 1 0 0 bs.length)]) bs.length ⟨0, by simp [marksI]⟩ ?_
  rintro J hJ m E H ⟨i, rfl, hi, rfl, rfl⟩
  simp [c_laws_markIntS_L0]
  refine ⟨fun h => ?_, fun h => ?_⟩
  · simp [h]
    have e : (ints (marksI i k ++ bs.drop i)).set i (.v (.int .i64 (k + i))) = ints (marksI (i + 1) k ++ bs.drop (i + 1)) := by
      rw [ints_set, set_mid _ _ _ _ (by simp [marksI]) h, marksI, marksI, List.range_succ, List.map_append]; rfl
    simp [marksI] at e ⊢
    refine ⟨by omega, by omega, by omega, _, ?_, hJ _ _ _ ⟨i + 1, rfl, h, ?_, ?_⟩⟩
    · omega
    · simp [marksI, e]
    · simp; omega
  · have : i = bs.length := by omega
    subst this
    simp [marksI]


@[simp] theorem marksI_length (n : Nat) (k : Int) : (marksI n k).length = n := by simp [marksI]
@[simp] theorem marksB_length (n : Nat) (k : Int) : (marksB n k).length = n := by simp [marksB]

@[simp] theorem take_marksI (n : Nat) (k : Int) : (ints (marksI n k)).take n = ints (marksI n k) := by
  have := take_ints_all (marksI n k)
  rwa [marksI_length] at this
@[simp] theorem take_marksB (n : Nat) (k : Int) : (bools (marksB n k)).take n = bools (marksB n k) := by
  have := take_bools_all (marksB n k)
  rwa [marksB_length] at this

theorem s_laws_heldIntS (n : Nat) (k : Int) (h0 : 0 ≤ k) (h1 : k < 2 ^ 40) (hb : n < 2 ^ 40) :
    SoundAt Tryz.prog n_laws_heldIntS [.sl 1 1 (ints (marksI n k)), .v (.int .i64 k)] (.v (.int .i64 (k + n))) [.bot, .bot] := by
  refine fn_ok (md := md0) (ms := [false, false]) k_laws_heldIntS (by simp) ?_
  simp [c_laws_heldIntS]
  refine loop_by (fun m E H => ∃ i : Nat, m = n - i ∧ i ≤ n ∧ H = [] ∧ E = [(0, .sl 1 1 (ints (marksI n k))), (1, .v (.int .i64 (k + i))), (5, .v (.int .i64 i))]) n ⟨0, by simp⟩ ?_
  rintro J hJ m E H ⟨i, rfl, hi, rfl, rfl⟩
  simp [c_laws_heldIntS_L0, marksI_length]
  refine ⟨fun h => ?_, fun h => ?_⟩
  · have e : ati (marksI n k) i = k + i := by simp [ati, marksI, h]
    have hl := marksI_length n k
    simp [e, h]
    refine ⟨by omega, by omega, _, by omega, hJ _ _ _ ⟨i + 1, rfl, h, rfl, ?_⟩⟩
    simp; omega
  · have : i = n := by omega
    subst this
    simp

theorem s_laws_eqRegion (W T W2 T2 : Int) (xs ys : List Bool) (ha : xs.length < 2 ^ 40) :
    SoundAt Tryz.prog n_laws_eqRegion [.agg [.v (.int .i64 W), .v (.int .i64 T), .sl 1 1 (bools xs)], .agg [.v (.int .i64 W2), .v (.int .i64 T2), .sl 1 1 (bools ys)]] (.v (.bool (decide (W = W2 ∧ T = T2 ∧ xs = ys)))) [.bot, .bot] := by
  refine fn_ok (md := md0) (ms := [false, false]) k_laws_eqRegion (by simp) ?_
  simp [c_laws_eqRegion]
  refine ⟨fun h => fun e => absurd e h, fun h1 => ⟨fun h _ e => absurd e h, fun h2 => ?_⟩⟩
  refine call_on (s_laws_eqBoolS xs ys ha) ?_
  simp [h1, h2]

theorem s_laws_markRegion (W T : Int) (bs : List Bool) (k : Int) (h0 : 0 ≤ k) (h1 : k < 2 ^ 40) (hb : bs.length < 2 ^ 40) :
    SoundAt Tryz.prog n_laws_markRegion [.agg [.v (.int .i64 W), .v (.int .i64 T), .os 1 (bools bs)], .v (.int .i64 k)] (.v (.int .i64 (k + bs.length))) [.agg [.v (.int .i64 W), .v (.int .i64 T), .os 1 (bools (marksB bs.length k))], .bot] := by
  refine fn_ok (md := md0) (ms := [true, false]) k_laws_markRegion (by simp) ?_
  simp [c_laws_markRegion]
  refine call_on (s_laws_markBoolS bs k h0 h1 hb) ?_
  simp [marksB_length]

end Go.Proofs.Dev

namespace Go.Proofs.Dev
set_option linter.unusedSimpArgs false
set_option maxRecDepth 100000

theorem s_spec_l1In (x lo hi : Int) : SoundAt Tryz.prog n_spec_l1In [.v (.int .i64 x), .v (.int .i64 lo), .v (.int .i64 hi)] (.v (.bool (decide (lo ≤ x ∧ x ≤ hi)))) [.bot, .bot, .bot] := by
  refine fn_ok (md := md0) (ms := [false, false, false]) k_spec_l1In (by simp) ?_
  simp [c_spec_l1In]
  constructor
  · intro h; simp [h]
  · intro h; omega

theorem s_spec_l1Count (bs : List Bool) (hb : bs.length < 2 ^ 40) : SoundAt Tryz.prog n_spec_l1Count [.sl 1 1 (bools bs)] (.v (.int .i64 (manyOf bs))) [.bot] := by
  refine fn_ok (md := md0) (ms := [false]) k_spec_l1Count (by simp) ?_
  simp [c_spec_l1Count]
  refine loop_by (fun m E H => ∃ i : Nat, m = bs.length - i ∧ i ≤ bs.length ∧ H = [] ∧ E = [(0, .sl 1 1 (bools bs)), (3, .v (.int .i64 (manyOf (bs.take i)))), (4, .v (.int .i64 i))]) bs.length ⟨0, by simp [manyOf]⟩ ?_
  rintro J hJ m E H ⟨i, rfl, hi, rfl, rfl⟩
  simp [c_spec_l1Count_L0]
  refine ⟨fun h => ?_, fun h => ?_⟩
  · have e := manyOf_take bs i h
    have e3 := manyOf_le (bs.take i)
    rw [List.length_take] at e3
    simp [h]
    refine ⟨fun hb => ⟨by omega, by omega, _, by omega, hJ _ _ _ ⟨i + 1, rfl, h, rfl, ?_⟩⟩, fun hb => ⟨by omega, _, by omega, hJ _ _ _ ⟨i + 1, rfl, h, rfl, ?_⟩⟩⟩ <;> simp [e, hb]
  · have : i = bs.length := by omega
    subst this
    simp

theorem s_spec_RegionValid (W T : Int) (cs : List Bool) (hb : cs.length < 2 ^ 40) : SoundAt Tryz.prog n_spec_RegionValid [.agg [.v (.int .i64 W), .v (.int .i64 T), .sl 1 1 (bools cs)]] (.v (.bool (regB W T cs))) [.bot] := by
  refine fn_ok (md := md0) (ms := [false]) k_spec_RegionValid (by simp) ?_
  simp [c_spec_RegionValid]
  refine call_on (s_spec_l1In W 1 6) ?_
  simp
  refine ⟨fun h h' => ?_, fun h => ?_⟩
  · refine call_on (s_spec_l1In T 1 6) ?_
    have hx : T ≤ 6 → W * T ≤ 36 ∧ (1 ≤ T → 1 ≤ W * T) := fun ht => ⟨(by
      by_cases h0 : 0 ≤ T
      · exact Int.mul_le_mul h' ht h0 (by omega)
      · have : W * T ≤ 0 := Int.mul_nonpos_of_nonneg_of_nonpos (by omega) (by omega)
        omega), fun h1 => Int.mul_pos (by omega) (by omega)⟩
    simp
    refine ⟨fun h1 h2 => ⟨by have := hx h2; omega, fun h3 => ?_, fun h3 => ?_⟩, fun h1 => ?_⟩
    · refine call_on (s_spec_l1Count cs hb) ?_
      simp [regB, h, h', h1, h2, h3]
      omega
    · simp [regB]; omega
    · simp [regB]; omega
  · simp [regB]; omega

theorem s_spec_l2Back (n : Int) (h : 0 ≤ n) (h2 : n < 2 ^ 60) : SoundAt Tryz.prog n_spec_l2Back [.v (.int .i64 n)] (.v (.int .i64 (backI n))) [.bot] := by
  refine fn_ok (md := md0) (ms := [false]) k_spec_l2Back (by simp) ?_
  simp [c_spec_l2Back, backI]
  omega

theorem s_spec_PairOf (a b : Int) (h1 : 0 ≤ a ∧ a ≤ 6) (h2 : 0 ≤ b ∧ b ≤ 6) : SoundAt Tryz.prog n_spec_PairOf [.v (.int .i64 a), .v (.int .i64 b)] (.v (.int .i64 (pairI a b))) [.bot, .bot] := by
  refine fn_ok (md := md0) (ms := [false, false]) k_spec_PairOf (by simp) ?_
  simp [c_spec_PairOf]
  refine call_on (s_spec_l1In a 0 6) ?_
  simp [h1]
  refine call_on (s_spec_l1In b 0 6) ?_
  simp [h2, pairI]
  rw [Int.min_def, Int.max_def]
  (repeat' split) <;> omega

theorem s_spec_l2Step (W T : Int) (cs : List Bool) (k way : Int) (hr : regB W T cs = true) (h0 : 0 ≤ k) (h1 : k < cs.length) :
    SoundAt Tryz.prog n_spec_l2Step [.agg [.v (.int .i64 W), .v (.int .i64 T), .sl 1 1 (bools cs)], .v (.int .i64 k), .v (.int .i64 way)] (.v (.int .i64 (stepI W T k way))) [.bot, .bot, .bot] := by
  refine fn_ok (md := md0) (ms := [false, false, false]) k_spec_l2Step (by simp) ?_
  obtain ⟨w1, w2, t1, t2, l1, _⟩ := regB_W hr
  have hl := regB_len hr
  have hxy := cell_xy (T := T) (k := k) w1 h0 (by omega)
  have e1 : stepI W T k way = if way = 1 ∧ k % W < W - 1 then k + 1 else if way = 2 ∧ k / W < T - 1 then k + W else if way = 3 ∧ 0 < k % W then k - 1 else if way = 4 ∧ 0 < k / W then k - W else -1 := rfl
  rw [e1]
  clear e1 hr
  generalize hA : k % W = A at *
  generalize hB : k / W = B at *
  by_cases c1 : way = 1
  · subst c1; simp [c_spec_l2Step, hA, hB]; omega
  by_cases c2 : way = 2
  · subst c2; simp [c_spec_l2Step, hA, hB]; omega
  by_cases c3 : way = 3
  · subst c3; simp [c_spec_l2Step, hA, hB]; omega
  by_cases c4 : way = 4
  · subst c4; simp [c_spec_l2Step, hA, hB]; omega
  simp [c_spec_l2Step, c1, c2, c3, c4]

end Go.Proofs.Dev

namespace Go.Proofs.Dev
set_option linter.unusedSimpArgs false
set_option maxRecDepth 100000

theorem and_false_of {a b : Bool} (h : a = true → b = false) : (a && b) = false := by cases a <;> simp_all

theorem s_spec_PuzzleValid (W T : Int) (cs : List Bool) (ds : List Int) (hb : cs.length < 2 ^ 40) (hd : ds.length < 2 ^ 40) :
    SoundAt Tryz.prog n_spec_PuzzleValid [.agg [.v (.int .i64 W), .v (.int .i64 T), .sl 1 1 (bools cs)], .sl 1 1 (ints ds)] (.v (.bool (regB W T cs && digsB cs ds))) [.bot, .bot] := by
  refine fn_ok (md := md0) (ms := [false, false]) k_spec_PuzzleValid (by simp) ?_
  simp [c_spec_PuzzleValid]
  refine call_on (s_spec_RegionValid W T cs hb) ?_
  simp
  refine ⟨fun hr => ⟨fun hl => ?_, fun hl => ?_⟩, fun hr => ?_⟩
  · intro _
    simp [digsB]; omega
  · have hl' : ds.length = cs.length := by omega
    refine loop_by (fun m E H => ∃ i : Nat, m = ds.length - i ∧ i ≤ ds.length ∧ allB i (fun k => digAt cs ds k) = true ∧ H = [some (.box [.v (.int .i64 W), .v (.int .i64 T), .sl 1 1 (bools cs)])] ∧ E = [(1, .sl 1 1 (ints ds)), (2, .lp 0 0 0 0), (5, .v (.int .i64 i))]) ds.length ⟨0, by simp [allB_zero]⟩ ?_
    rintro J hJ m E H ⟨i, rfl, hi, ha, rfl, rfl⟩
    by_cases h : i < ds.length
    · have h2 : i < cs.length := by omega
      have next : digAt cs ds i = true → again J (ds.length - i) [(1, .sl 1 1 (ints ds)), (2, .lp 0 0 0 0), (5, .v (.int .i64 (i + 1)))] [some (.box [.v (.int .i64 W), .v (.int .i64 T), .sl 1 1 (bools cs)])] :=
        fun hd => ⟨_, by omega, hJ _ _ _ ⟨i + 1, rfl, h, by rw [allB_succ, ha, hd]; rfl, rfl, rfl⟩⟩
      have stop : digAt cs ds i = false → digsB cs ds = false := fun hd => by simp only [digsB, hl', decide_true, Bool.true_and]; exact allB_false h2 hd
      cases hc : atb cs i with
      | true =>
        simp [c_spec_PuzzleValid_L0, h, h2, hc]
        refine call_on (s_spec_l1In (ati ds i) 0 6) ?_
        simp [digAt, hc] at next stop ⊢
        (repeat' first | assumption | omega | apply And.intro | intro _) <;> first | omega | exact stop (by omega) | exact next (by omega) (by omega)
      | false =>
        simp [c_spec_PuzzleValid_L0, h, h2, hc]
        simp [digAt, hc] at next stop ⊢
        exact ⟨fun hx => fun _ => stop hx, fun hx => ⟨by omega, next hx⟩⟩
    · have : i = ds.length := by omega
      subst this
      simp [c_spec_PuzzleValid_L0]
      simp [digsB, hr, hl'] at ha ⊢
      exact ha
  · simp [hr]

end Go.Proofs.Dev
