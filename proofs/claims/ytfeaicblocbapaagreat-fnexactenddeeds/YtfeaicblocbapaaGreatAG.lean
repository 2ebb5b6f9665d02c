/- Contracts of the functions of the program over slots and rows, each proved against the program itself; no condition beyond those that each theorem names. -/
import Derived.Test.YtfeaicblocbapaaGreatAF

set_option linter.unusedSimpArgs false
set_option linter.unusedVariables false

namespace Go.Proofs.Dev
set_option linter.unusedSimpArgs false
set_option maxRecDepth 100000

theorem s_laws_markIntSW (bs : List Int) (k : Int) (h0 : 0 ≤ k) (h1 : k < 2 ^ 60) (hb : bs.length < 2 ^ 40) :
    SoundAt Tryz.prog n_laws_markIntS [.os 1 (ints bs), .v (.int .i64 k)] (.v (.int .i64 (k + bs.length))) [.os 1 (ints (marksI bs.length k)), .bot] := by
  refine fn_ok (md := md0) (ms := [true, false]) k_laws_markIntS (by simp) ?_
  simp [c_laws_markIntS]
  refine loop_by (fun m E H => ∃ i : Nat, m = bs.length - i ∧ i ≤ bs.length ∧ H = [some (.arr 1 (ints (marksI i k ++ bs.drop i)))] ∧ E = [(0, .ls 1 0 0 bs.length), (1, .v (.int .i64 (k + i))), (5, .v (.int .i64 i)), (19, .ls 1 0 0 bs.length)]) bs.length ⟨0, by simp [marksI]⟩ ?_
  rintro J hJ m E H ⟨i, rfl, hi, rfl, rfl⟩
  simp [c_laws_markIntS_L0]
  refine ⟨fun h => ?_, fun h => ?_⟩
  · simp [h]
    have e : (ints (marksI i k ++ bs.drop i)).set i (.v (.int .i64 (k + i))) = ints (marksI (i + 1) k ++ bs.drop (i + 1)) := by
      rw [ints_set, set_mid _ _ _ _ (by simp [marksI]) h, marksI, marksI, List.range_succ, List.map_append]; rfl
    simp [marksI] at e ⊢
    refine ⟨by omega, by omega, by omega, _, ?_, hJ _ _ _ ⟨i + 1, rfl, h, ?_, ?_⟩⟩
    · omega
    · simp [marksI, e]
    · simp; omega
  · have : i = bs.length := by omega
    subst this
    simp [marksI]

theorem s_laws_heldIntSW (n : Nat) (k : Int) (h0 : 0 ≤ k) (h1 : k < 2 ^ 60) (hb : n < 2 ^ 40) :
    SoundAt Tryz.prog n_laws_heldIntS [.sl 1 1 (ints (marksI n k)), .v (.int .i64 k)] (.v (.int .i64 (k + n))) [.bot, .bot] := by
  refine fn_ok (md := md0) (ms := [false, false]) k_laws_heldIntS (by simp) ?_
  simp [c_laws_heldIntS]
  refine loop_by (fun m E H => ∃ i : Nat, m = n - i ∧ i ≤ n ∧ H = [] ∧ E = [(0, .sl 1 1 (ints (marksI n k))), (1, .v (.int .i64 (k + i))), (5, .v (.int .i64 i))]) n ⟨0, by simp⟩ ?_
  rintro J hJ m E H ⟨i, rfl, hi, rfl, rfl⟩
  simp [c_laws_heldIntS_L0, marksI_length]
  refine ⟨fun h => ?_, fun h => ?_⟩
  · have e : ati (marksI n k) i = k + i := by simp [ati, marksI, h]
    have hl := marksI_length n k
    simp [e, h]
    refine ⟨by omega, by omega, _, by omega, hJ _ _ _ ⟨i + 1, rfl, h, rfl, ?_⟩⟩
    simp; omega
  · have : i = n := by omega
    subst this
    simp

@[simp] theorem take_sls_all (c : Nat) (ps : List (List Int)) : (sls c ps).take ps.length = sls c ps := List.take_of_length_le (by simp)

/-- What the marks of lists of lists are. -/
def marksSS : Int → List (List Int) → List (List Int)
  | _, [] => []
  | k, p :: ps => marksI p.length k :: marksSS (k + p.length) ps
theorem sumL_cons (p : List Int) (ps : List (List Int)) : sumL (p :: ps) = p.length + sumL ps := by simp [sumL]
theorem marksSS_append : ∀ (k : Int) (a b : List (List Int)), marksSS k (a ++ b) = marksSS k a ++ marksSS (k + sumL a) b
  | k, [], b => by simp [marksSS, sumL]
  | k, p :: a, b => by
    rw [List.cons_append, marksSS, marksSS, marksSS_append, sumL_cons, List.cons_append, show k + (p.length : Int) + (sumL a : Int) = k + ((p.length + sumL a : Nat) : Int) by omega]
@[simp] theorem marksSS_length : ∀ (k : Int) (a : List (List Int)), (marksSS k a).length = a.length
  | k, [] => by simp [marksSS]
  | k, p :: a => by simp [marksSS, marksSS_length]
@[simp] theorem take_marksSS (k : Int) (ps : List (List Int)) : (oss (marksSS k ps)).take ps.length = oss (marksSS k ps) := List.take_of_length_le (by simp)
theorem marksSS_succ {ps : List (List Int)} {i : Nat} (k : Int) (h : i < ps.length) : marksSS k (ps.take (i + 1)) = marksSS k (ps.take i) ++ [marksI (pti ps i).length (k + sumL (ps.take i))] := by
  rw [List.take_succ_eq_append_getElem h, marksSS_append, pti_get h]
  rfl
theorem marksSS_at {ps : List (List Int)} {i : Nat} (k : Int) (h : i < ps.length) : pti (marksSS k ps) i = marksI (pti ps i).length (k + sumL (ps.take i)) := by
  have e : marksSS k ps = marksSS k (ps.take i) ++ marksSS (k + sumL (ps.take i)) (ps.drop i) := by
    rw [← marksSS_append, List.take_append_drop]
  have hl : (ps.take i).length = i := by simp; omega
  rw [e, pti_nat, List.getD_eq_getElem?_getD, List.getElem?_append_right (by simp [hl]), List.drop_eq_getElem_cons h]
  simp [hl, marksSS, pti_get h]

theorem s_laws_markIntSS (ps : List (List Int)) (k : Int) (h0 : 0 ≤ k) (h1 : k + sumL ps < 2 ^ 60) (hb : ps.length < 2 ^ 40) (hp : ∀ p ∈ ps, p.length < 2 ^ 40) :
    SoundAt Tryz.prog n_laws_markIntSS [.os 1 (oss ps), .v (.int .i64 k)] (.v (.int .i64 (k + sumL ps))) [.os 1 (oss (marksSS k ps)), .bot] := by
  refine fn_ok (md := md0) (ms := [true, false]) k_laws_markIntSS (by simp) ?_
  simp [c_laws_markIntSS]
  refine loop_by (fun m E H => ∃ i : Nat, m = ps.length - i ∧ i ≤ ps.length ∧ H = [some (.arr 1 (oss (marksSS k (ps.take i) ++ ps.drop i)))] ∧
    E = [(0, .ls 1 0 0 ps.length), (1, .v (.int .i64 (k + sumL (ps.take i)))), (5, .v (.int .i64 i)), (19, .ls 1 0 0 ps.length)]) ps.length ⟨0, by simp [marksSS, sumL]⟩ ?_
  rintro J hJ m E H ⟨i, rfl, hi, rfl, rfl⟩
  by_cases h : i < ps.length
  case neg =>
    have : i = ps.length := by omega
    subst this
    simp [c_laws_markIntSS_L0]
  have hs := sumL_succ h
  have hle := sumL_le (ps := ps) (i := i + 1)
  have hpl := hp _ (pti_mem h)
  have hX : (marksSS k (ps.take i)).length = i := by simp; omega
  have hget : (oss (marksSS k (ps.take i) ++ ps.drop i))[i]? = some (.os 1 (ints (pti ps i))) := by
    unfold oss
    rw [List.getElem?_map, List.getElem?_append_right (by omega), hX, Nat.sub_self, List.drop_eq_getElem_cons h, pti_get h]
    rfl
  simp [c_laws_markIntSS_L0, h]
  refine awpT_take rfl rfl (by simpa using hget) ?_
  intro u
  simp [takeH]
  refine call_on (s_laws_markIntSW (pti ps i) (k + sumL (ps.take i)) (by omega) (by omega) hpl) ?_
  simp
  refine ⟨15, u, 0, i, _, 1, 1, _, rfl, rfl, rfl, List.getElem?_set_self (by simp; omega), by simp, rfl, by decide, ?_⟩
  simp [backH]
  have e1 : (oss (marksSS k (ps.take i) ++ ps.drop i)).set i (.os 1 (ints (marksI (pti ps i).length (k + sumL (ps.take i))))) = oss (marksSS k (ps.take (i + 1)) ++ ps.drop (i + 1)) := by
    rw [oss_set, set_mid _ _ _ _ hX h, ← marksSS_succ k h]
  rw [e1]
  refine ⟨by omega, _, by omega, hJ _ _ _ ⟨i + 1, rfl, h, rfl, ?_⟩⟩
  have e2 : k + (sumL (ps.take i) : Int) + ((pti ps i).length : Int) = k + ((sumL (ps.take (i + 1)) : Nat) : Int) := by omega
  rw [e2]
  rfl

theorem s_laws_heldIntSS (ps : List (List Int)) (k : Int) (h0 : 0 ≤ k) (h1 : k + sumL ps < 2 ^ 60) (hb : ps.length < 2 ^ 40) (hp : ∀ p ∈ ps, p.length < 2 ^ 40) :
    SoundAt Tryz.prog n_laws_heldIntSS [.sl 1 1 (sls 1 (marksSS k ps)), .v (.int .i64 k)] (.v (.int .i64 (k + sumL ps))) [.bot, .bot] := by
  refine fn_ok (md := md0) (ms := [false, false]) k_laws_heldIntSS (by simp) ?_
  simp [c_laws_heldIntSS]
  refine loop_by (fun m E H => ∃ i : Nat, m = ps.length - i ∧ i ≤ ps.length ∧ H = [] ∧
    E = [(0, .sl 1 1 (sls 1 (marksSS k ps))), (1, .v (.int .i64 (k + sumL (ps.take i)))), (5, .v (.int .i64 i))]) ps.length ⟨0, by simp [sumL]⟩ ?_
  rintro J hJ m E H ⟨i, rfl, hi, rfl, rfl⟩
  by_cases h : i < ps.length
  case neg =>
    have : i = ps.length := by omega
    subst this
    simp [c_laws_heldIntSS_L0]
  have hs := sumL_succ h
  have hle := sumL_le (ps := ps) (i := i + 1)
  have hpl := hp _ (pti_mem h)
  have one := s_laws_heldIntSW (pti ps i).length (k + sumL (ps.take i)) (by omega) (by omega) hpl
  rw [← marksSS_at k h] at one
  have hn : ¬ (k + (sumL (ps.take i) : Int) + ((pti ps i).length : Int) < 0) := by omega
  have e2 : k + (sumL (ps.take i) : Int) + ((pti ps i).length : Int) = k + ((sumL (ps.take (i + 1)) : Nat) : Int) := by omega
  simp [c_laws_heldIntSS_L0, h]
  refine call_on one ?_
  simp [hn]
  refine ⟨by omega, _, by omega, hJ _ _ _ ⟨i + 1, rfl, h, rfl, ?_⟩⟩
  rw [e2]
  rfl

theorem sols_sum {W T : Int} {cs : List Bool} {ds : List Int} (h36 : cs.length ≤ 36) : sumL (solsI W T cs ds) ≤ 68719476736 * 36 := by
  have h1 : ∀ ps : List (List Int), (∀ p ∈ ps, p.length ≤ 36) → sumL ps ≤ ps.length * 36 := by
    intro ps
    induction ps with
    | nil => intro _; simp [sumL]
    | cons p ps ih =>
      intro hp
      have h2 := hp p (by simp)
      have h3 := ih fun q hq => hp q (by simp [hq])
      rw [sumL_cons, List.length_cons]; omega
  have h2 := h1 (solsI W T cs ds) (fun p hp => by rw [sols_len hp]; exact h36)
  have h3 := sols_length (W := W) (T := T) (cs := cs) (ds := ds)
  omega

theorem sols_none {W T : Int} {cs : List Bool} {ds : List Int} (h36 : ¬ cs.length ≤ 36) : solsI W T cs ds = [] := by
  unfold solsI
  split
  · rename_i h
    simp only [Bool.and_eq_true] at h
    exact absurd (regB_len h.1) h36
  · rfl

theorem sols_fit (W T : Int) (cs : List Bool) (ds : List Int) (hb : cs.length < 2 ^ 21) : sumL (solsI W T cs ds) ≤ 68719476736 * 36 ∧ (solsI W T cs ds).length < 2 ^ 40 ∧ ∀ p ∈ solsI W T cs ds, p.length < 2 ^ 40 := by
  refine ⟨?_, by have := sols_length (W := W) (T := T) (cs := cs) (ds := ds); omega, fun p hp => by rw [sols_len hp]; omega⟩
  by_cases h : cs.length ≤ 36
  · exact sols_sum h
  · rw [sols_none h]; simp [sumL]

end Go.Proofs.Dev
