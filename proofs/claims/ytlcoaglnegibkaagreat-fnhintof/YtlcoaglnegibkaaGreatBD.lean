/- Contracts of the functions of the program over slots and rows, each proved against the program itself; no condition beyond those that each theorem names. -/
import Derived.Test.YtlcoaglnegibkaaGreatBB
import Derived.Test.YtlcoaglnegibkaaGreatBC

set_option linter.unusedSimpArgs false
set_option linter.unusedVariables false

namespace Go.Proofs.Dev
set_option linter.unusedSimpArgs false
set_option maxRecDepth 100000

/-- The sets, their ways, as rows. -/
def fsL (P : List (Nat × Nat)) : List Int := P.map fun p => (p.1 : Int)
def snL (P : List (Nat × Nat)) : List Int := P.map fun p => (p.2 : Int)
@[simp] theorem fsL_length (P : List (Nat × Nat)) : (fsL P).length = P.length := by simp [fsL]
@[simp] theorem snL_length (P : List (Nat × Nat)) : (snL P).length = P.length := by simp [snL]
theorem fsL_at {P : List (Nat × Nat)} {i : Nat} (h : i < P.length) : ati (fsL P) i = (P[i].1 : Int) := by simp [fsL, ati, h]
theorem snL_at {P : List (Nat × Nat)} {i : Nat} (h : i < P.length) : ati (snL P) i = (P[i].2 : Int) := by simp [snL, ati, h]
def natI (os : List Nat) : List Int := os.map Int.ofNat
@[simp] theorem natI_length (os : List Nat) : (natI os).length = os.length := by simp [natI]
theorem natI_at {os : List Nat} {i : Nat} (h : i < os.length) : ati (natI os) i = ((os[i] : Nat) : Int) := by simp [natI, ati, h]

theorem ways_le {P : List (Nat × Nat)} {i : Nat} (h : i < P.length) : P[i].2 ≤ wsum (fun _ => 1) P := by
  have h1 := wsum_append (fun _ => 1) (P.take i) (P.drop i)
  rw [List.take_append_drop, List.drop_eq_getElem_cons h] at h1
  have h2 : wsum (fun _ => 1) (P[i] :: P.drop (i + 1)) = P[i].2 + wsum (fun _ => 1) (P.drop (i + 1)) := by simp only [wsum, List.map_cons, List.sum_cons, Nat.mul_one]
  omega

theorem addAll_take {P : List (Nat × Nat)} {os : List Nat} {v j : Nat} (h : j < os.length) : addAll P (os.take (j + 1)) v = addP (addAll P (os.take j) v) os[j] v := by
  unfold addAll
  rw [List.take_succ_eq_append_getElem h, List.foldl_append]; rfl

abbrev tmBox (W T : Int) (cs : List Bool) : Option Row := some (.box [.v (.int .i64 W), .v (.int .i64 T), .sl 1 1 (bools cs)])

set_option maxHeartbeats 1000000 in
/-- One set's choices are added. -/
theorem tm_L1 (W T : Int) (cs : List Bool) (P Q : List (Nat × Nat)) (os : List Nat) (c k v : Nat) (hk : k < P.length) (hv : P[k].2 = v) (hP : P.length ≤ 2 ^ 36) (hQ : Q.length + os.length ≤ 2 ^ 38) (hs : wsum (fun _ => 1) Q + v * os.length ≤ 2 ^ 40) {Qc : AExit → ES → Heap → Prop} {E : ES} {H : Heap}
    (hE : E = [(1, .lp 0 0 0 0), (3, .ls 1 1 0 P.length), (4, .ls 1 2 0 P.length), (5, .v (.int .i64 c)), (6, .ls 1 3 0 Q.length), (7, .ls 1 4 0 Q.length), (8, .v (.int .i64 k)), (11, .ls 1 5 0 os.length), (14, .v (.int .i64 0))])
    (hH : H = [tmBox W T cs, some (.arr 1 (ints (fsL P))), some (.arr 1 (ints (snL P))), some (.arr 1 (ints (fsL Q))), some (.arr 1 (ints (snL Q))), some (.arr 1 (ints (natI os)))])
    (hend : Qc (.exit 5) [(118, .v (.bool false)), (117, .v (.int .i64 os.length)), (116, .ls 1 5 0 os.length), (115, .v (.int .i64 os.length)), (1, .lp 0 0 0 0), (3, .ls 1 1 0 P.length), (4, .ls 1 2 0 P.length), (5, .v (.int .i64 c)), (6, .ls 1 3 0 (addAll Q os v).length), (7, .ls 1 4 0 (addAll Q os v).length), (8, .v (.int .i64 k)), (11, .ls 1 5 0 os.length), (14, .v (.int .i64 os.length))]
      [tmBox W T cs, some (.arr 1 (ints (fsL P))), some (.arr 1 (ints (snL P))), some (.arr 1 (ints (fsL (addAll Q os v)))), some (.arr 1 (ints (snL (addAll Q os v)))), some (.arr 1 (ints (natI os)))]) :
    loopNode [(3, 1), (4, 1), (6, 1), (7, 1), (11, 1)] [1, 3, 4, 5, 6, 7, 8, 11, 14] (awp Tryz.prog md0 c_spec_TilingsMany_L1) Qc E H := by
  subst hE hH
  refine loop_by (fun m E H => ∃ j : Nat, m = os.length - j ∧ j ≤ os.length ∧
    H = [tmBox W T cs, some (.arr 1 (ints (fsL P))), some (.arr 1 (ints (snL P))), some (.arr 1 (ints (fsL (addAll Q (os.take j) v)))), some (.arr 1 (ints (snL (addAll Q (os.take j) v)))), some (.arr 1 (ints (natI os)))] ∧
    E = [(1, .lp 0 0 0 0), (3, .ls 1 1 0 P.length), (4, .ls 1 2 0 P.length), (5, .v (.int .i64 c)), (6, .ls 1 3 0 (addAll Q (os.take j) v).length), (7, .ls 1 4 0 (addAll Q (os.take j) v).length), (8, .v (.int .i64 k)), (11, .ls 1 5 0 os.length), (14, .v (.int .i64 j))]) os.length ⟨0, by simp [addAll]⟩ ?_
  rintro J hJ m E H ⟨j, rfl, hj, rfl, rfl⟩
  by_cases h : j < os.length
  case neg =>
    have : j = os.length := by omega
    subst this
    rw [List.take_length]
    simp [c_spec_TilingsMany_L1]
    exact hend
  have hstep := addAll_take (P := Q) (v := v) h
  have hQl := addAll_length v (os.take j) Q
  have hQs : wsum (fun _ => 1) (addAll Q (os.take j) v) + v ≤ 2 ^ 40 := by
    rw [wsum_addAll, sum_ones, List.length_take]
    have : v * min j os.length + v ≤ v * os.length := by
      rw [← Nat.mul_succ]; exact Nat.mul_le_mul_left _ (by omega)
    omega
  generalize hQj : addAll Q (os.take j) v = Qj at *
  generalize hQn : addAll Q (os.take (j + 1)) v = Qn at *
  have hlen : Qj.length ≤ 2 ^ 38 := by simp at hQl; omega
  obtain ⟨o, ho⟩ : ∃ o, os[j] = o := ⟨_, rfl⟩
  rw [ho] at hstep
  have hoa : ati (natI os) j = (o : Int) := by rw [natI_at h, ho]
  have hva : ati (snL P) k = (v : Int) := by rw [snL_at hk, hv]
  have next : again J (os.length - j) [(1, .lp 0 0 0 0), (3, .ls 1 1 0 P.length), (4, .ls 1 2 0 P.length), (5, .v (.int .i64 c)), (6, .ls 1 3 0 Qn.length), (7, .ls 1 4 0 Qn.length), (8, .v (.int .i64 k)), (11, .ls 1 5 0 os.length), (14, .v (.int .i64 (j + 1)))]
      [tmBox W T cs, some (.arr 1 (ints (fsL P))), some (.arr 1 (ints (snL P))), some (.arr 1 (ints (fsL Qn))), some (.arr 1 (ints (snL Qn))), some (.arr 1 (ints (natI os)))] := by
    refine ⟨_, by omega, hJ _ _ _ ⟨j + 1, rfl, h, ?_, ?_⟩⟩
    · rw [hQn]
    · rw [hQn]; simp
  simp [c_spec_TilingsMany_L1, h]
  refine loop_by (fun m E H => ∃ i : Nat, m = Qj.length - i ∧ i ≤ Qj.length ∧ (∀ i', i' < i → ∀ p, Qj[i']? = some p → p.1 ≠ o) ∧
    H = [tmBox W T cs, some (.arr 1 (ints (fsL P))), some (.arr 1 (ints (snL P))), some (.arr 1 (ints (fsL Qj))), some (.arr 1 (ints (snL Qj))), some (.arr 1 (ints (natI os)))] ∧
    E = [(1, .lp 0 0 0 0), (3, .ls 1 1 0 P.length), (4, .ls 1 2 0 P.length), (5, .v (.int .i64 c)), (6, .ls 1 3 0 Qj.length), (7, .ls 1 4 0 Qj.length), (8, .v (.int .i64 k)), (11, .ls 1 5 0 os.length), (14, .v (.int .i64 j)), (15, .v (.int .i64 i))]) Qj.length ⟨0, by simp⟩ ?_
  rintro J2 hJ2 m2 E2 H2 ⟨i, rfl, hi, hne, rfl, rfl⟩
  by_cases h2 : i < Qj.length
  case neg =>
    have : i = Qj.length := by omega
    subst this
    have e1 : Qn = Qj ++ [(o, v)] := by
      rw [hstep]
      refine addP_new v fun p hp => ?_
      obtain ⟨i', hi', rfl⟩ := List.mem_iff_getElem.1 hp
      exact hne i' hi' _ (by simp [hi'])
    have e2 : ints (fsL Qn) = ints (fsL Qj) ++ [.v (.int .i64 o)] := by rw [e1]; simp [fsL, ints]
    have e3 : ints (snL Qn) = ints (snL Qj) ++ [.v (.int .i64 v)] := by rw [e1]; simp [snL, ints]
    have e4 : Qn.length = Qj.length + 1 := by rw [e1]; simp
    rw [e2, e3, e4] at next
    simp [c_spec_TilingsMany_L0, h, hoa, hva, hk]
    exact ⟨by omega, by omega, by omega, by omega, by omega, next⟩
  obtain ⟨p, hp⟩ : ∃ p, Qj[i] = p := ⟨_, rfl⟩
  have hpa : ati (fsL Qj) i = (p.1 : Int) := by rw [fsL_at h2, hp]
  have hpb : ati (snL Qj) i = (p.2 : Int) := by rw [snL_at h2, hp]
  have hw := ways_le h2
  rw [hp] at hw
  by_cases heq : p.1 = o
  · have e1 : Qn = Qj.set i (o, p.2 + v) := by
      rw [hstep]
      exact addP_at v (by simp [h2, hp, ← heq]) hne
    have e2 : fsL Qn = fsL Qj := by
      rw [e1]; unfold fsL
      rw [List.map_set]
      apply List.ext_getElem (by simp)
      intro a h3 h4
      rw [List.getElem_set]
      split
      · rename_i he; subst he; simp [hp, heq]
      · rfl
    have e3 : snL Qn = (snL Qj).set i ((p.2 : Int) + v) := by rw [e1]; unfold snL; rw [List.map_set]; simp
    have e4 : Qn.length = Qj.length := by rw [e1]; simp
    rw [e2, e3, e4] at next
    have heq' : (p.1 : Int) = o := by omega
    have hne2 : ¬ (i : Int) = Qj.length := by omega
    simp [c_spec_TilingsMany_L0, h, h2, hoa, hva, hk, hpa, hpb, heq', ints_set, hne2]
    exact ⟨by omega, by omega, next⟩
  · have hne' : ¬ (p.1 : Int) = o := by omega
    simp [c_spec_TilingsMany_L0, h, h2, hoa, hpa, hne']
    refine ⟨by omega, _, by omega, hJ2 _ _ _ ⟨i + 1, rfl, h2, ?_, rfl, by simp⟩⟩
    intro i' hi' q hq
    rcases Nat.lt_succ_iff_lt_or_eq.1 hi' with h3 | h3
    · exact hne i' h3 q hq
    · subst h3
      simp [h2, hp] at hq
      rw [← hq]; exact heq

end Go.Proofs.Dev

namespace Go.Proofs.Dev
set_option linter.unusedSimpArgs false
set_option maxRecDepth 100000

def freeF (cs : List Bool) : Nat → Bool := fun i => atb cs i
def tmI (W T : Int) (cs : List Bool) : Int := if regB W T cs = true then ((cntF W T cs.length 0 (freeF cs) : Nat) : Int) else -1

theorem free_out {cs : List Bool} : ∀ i, cs.length ≤ i → freeF cs i = false := by
  intro i hi
  simp [freeF, atb, List.getElem?_eq_none hi]

theorem shr_zero {s : Nat} {W : Int} (h : s < 2 ^ W.toNat) : (s : Int) / 2 ^ W.toNat = 0 := by
  have : ((2 ^ W.toNat : Nat) : Int) = 2 ^ W.toNat := by simp
  rw [← this]
  exact Int.ediv_eq_zero_of_lt (by omega) (by omega)

set_option maxHeartbeats 4000000 in
/-- All sets of a cell are gone through. -/
theorem tm_L2 (W T : Int) (cs : List Bool) (hr : regB W T cs = true) (c tot : Nat) (hc : c < cs.length) (P : List (Nat × Nat)) (hP : OkP W T (freeF cs) cs.length c tot P) {Qc : AExit → ES → Heap → Prop} {E : ES} {H : Heap}
    (hE : E = [(1, .lp 0 0 0 0), (3, .ls 1 1 0 P.length), (4, .ls 1 2 0 P.length), (5, .v (.int .i64 c)), (6, .ls 1 3 0 0), (7, .ls 1 4 0 0), (8, .v (.int .i64 0))])
    (hH : H = [tmBox W T cs, some (.arr 1 (ints (fsL P))), some (.arr 1 (ints (snL P))), some (.arr 1 []), some (.arr 1 [])])
    (hend : ∀ Q, MidP W T (freeF cs) cs.length c P P.length Q → Qc (.exit 2) [(35, .v (.bool false)), (34, .v (.int .i64 P.length)), (33, .ls 1 1 0 P.length), (32, .v (.int .i64 P.length)), (1, .lp 0 0 0 0), (3, .ls 1 1 0 P.length), (4, .ls 1 2 0 P.length), (5, .v (.int .i64 c)), (6, .ls 1 3 0 Q.length), (7, .ls 1 4 0 Q.length), (8, .v (.int .i64 P.length))]
      [tmBox W T cs, some (.arr 1 (ints (fsL P))), some (.arr 1 (ints (snL P))), some (.arr 1 (ints (fsL Q))), some (.arr 1 (ints (snL Q)))]) :
    loopNode [(3, 1), (4, 1), (6, 1), (7, 1)] [1, 3, 4, 5, 6, 7, 8] (awp Tryz.prog md0 c_spec_TilingsMany_L2) Qc E H := by
  subst hE hH
  obtain ⟨w1, w2, t1, t2, l1, _⟩ := regB_W hr
  have h36 := regB_len hr
  have hpow : 2 ^ c ≤ 2 ^ 36 := Nat.pow_le_pow_right (by omega) (by omega)
  have hPl : P.length ≤ 2 ^ 36 := Nat.le_trans hP.len hpow
  have hPs : wsum (fun _ => 1) P ≤ 2 ^ 36 := Nat.le_trans hP.sum hpow
  refine loop_by (fun m E H => ∃ (k : Nat) (Q : List (Nat × Nat)), m = P.length - k ∧ k ≤ P.length ∧ MidP W T (freeF cs) cs.length c P k Q ∧
    H = [tmBox W T cs, some (.arr 1 (ints (fsL P))), some (.arr 1 (ints (snL P))), some (.arr 1 (ints (fsL Q))), some (.arr 1 (ints (snL Q)))] ∧
    E = [(1, .lp 0 0 0 0), (3, .ls 1 1 0 P.length), (4, .ls 1 2 0 P.length), (5, .v (.int .i64 c)), (6, .ls 1 3 0 Q.length), (7, .ls 1 4 0 Q.length), (8, .v (.int .i64 k))]) P.length ⟨0, [], rfl, by omega, mid_zero, by simp [fsL, snL], by simp⟩ ?_
  rintro J hJ m E H ⟨k, Q, rfl, hk', hQ, rfl, rfl⟩
  by_cases hk : k < P.length
  case neg =>
    have : k = P.length := by omega
    subst this
    simp [c_spec_TilingsMany_L2]
    exact hend Q hQ
  obtain ⟨⟨s, v⟩, hp⟩ : ∃ p, P[k] = p := ⟨_, rfl⟩
  have hpk : P[k]? = some (s, v) := by simp [hk, hp]
  have hsa : ati (fsL P) k = (s : Int) := by rw [fsL_at hk, hp]
  have hv : P[k].2 = v := by rw [hp]
  have hlt := hP.lt _ (List.mem_of_getElem? hpk)
  have hw := ways_le hk
  rw [hv] at hw
  have hQl := hQ.len
  have hQs := hQ.sum
  have hQs2 := wsum_take (fun _ => 1) P k
  have hol := opts_len (W := W) (T := T) (F := freeF cs) (c := c) (s := s)
  have hmul : v * (optsN W T (freeF cs) c s).length ≤ v * 2 := Nat.mul_le_mul_left _ hol
  have hmid := mid_step w1 free_out hc hP hpk hQ
  have next : again J (P.length - k) [(1, .lp 0 0 0 0), (3, .ls 1 1 0 P.length), (4, .ls 1 2 0 P.length), (5, .v (.int .i64 c)), (6, .ls 1 3 0 (addAll Q (optsN W T (freeF cs) c s) v).length), (7, .ls 1 4 0 (addAll Q (optsN W T (freeF cs) c s) v).length), (8, .v (.int .i64 (k + 1)))]
      [tmBox W T cs, some (.arr 1 (ints (fsL P))), some (.arr 1 (ints (snL P))), some (.arr 1 (ints (fsL (addAll Q (optsN W T (freeF cs) c s) v)))), some (.arr 1 (ints (snL (addAll Q (optsN W T (freeF cs) c s) v))))] :=
    ⟨_, by omega, hJ _ _ _ ⟨k + 1, _, rfl, hk, hmid, rfl, by simp⟩⟩
  have hl1 := fun {Qc E H} hE hH hend => tm_L1 W T cs P Q (optsN W T (freeF cs) c s) c k v hk hv hPl (by omega) (by omega) (Qc := Qc) (E := E) (H := H) hE hH hend
  have hW1 : (W - 1).toNat = W.toNat - 1 := by omega
  have hshr := shr_zero hlt.1
  have hcov : (s % 2 = 1 ∨ freeF cs c = false) ∨ (s % 2 = 0 ∧ freeF cs c = true) := by
    rcases Nat.mod_two_eq_zero_or_one s with h | h
    · cases hF : freeF cs c with
      | false => exact .inl (.inr rfl)
      | true => exact .inr ⟨h, rfl⟩
    · exact .inl (.inl h)
  rcases hcov with hcov | ⟨hs0, hF⟩
  · have hopts : optsN W T (freeF cs) c s = [s / 2] := by unfold optsN; rw [if_pos hcov]
    have hcond : (s % 2 = 1) ∨ (s % 2 = 0 ∧ atb cs c = false) := by
      rcases hcov with h | h
      · exact .inl h
      · rcases Nat.mod_two_eq_zero_or_one s with h2 | h2
        · exact .inr ⟨h2, h⟩
        · exact .inl h2
    rcases hcond with h | ⟨h, h3⟩
    · have h' : (s : Int) % 2 = 1 := by omega
      simp [c_spec_TilingsMany_L2, hk, hsa, h', hc]
      have hs64 : s < 2 ^ 6 := Nat.lt_of_lt_of_le hlt.1 (Nat.pow_le_pow_right (by omega) (by omega))
      refine ⟨by omega, hl1 ?_ ?_ ?_⟩
      · simp [hopts]
      · simp [hopts, natI, ints]
      simp
      exact ⟨by omega, next⟩
    · have h' : (s : Int) % 2 = 0 := by omega
      simp [c_spec_TilingsMany_L2, hk, hsa, h', hc, h3]
      have hs64 : s < 2 ^ 6 := Nat.lt_of_lt_of_le hlt.1 (Nat.pow_le_pow_right (by omega) (by omega))
      refine ⟨by omega, hl1 ?_ ?_ ?_⟩
      · simp [hopts]
      · simp [hopts, natI, ints]
      simp
      exact ⟨by omega, next⟩
  have hFc : atb cs c = true := hF
  have h' : (s : Int) % 2 = 0 := by omega
  have hopts : optsN W T (freeF cs) c s = (if 0 ≤ stepI W T c 1 ∧ freeF cs (c + 1) = true ∧ s / 2 % 2 = 0 then [s / 2 + 1] else []) ++ (if 0 ≤ stepI W T c 2 ∧ freeF cs (c + W.toNat) = true then [s / 2 + 2 ^ (W.toNat - 1)] else []) := by
    unfold optsN; rw [if_neg (by simp [hF]; omega)]
  have two1 := s_spec_l2Step W T cs c 1 hr (by omega) (by omega)
  have two2 := s_spec_l2Step W T cs c 2 hr (by omega) (by omega)
  have hst1 := stepI_range (T := T) (k := c) (way := 1) w1 (by omega) (by omega)
  have hst2 := stepI_range (T := T) (k := c) (way := 2) w1 (by omega) (by omega)
  simp [c_spec_TilingsMany_L2, hk, hsa, h', hc, hFc]
  refine call_on two1 ?_
  simp
  refine call_on two2 ?_
  have eE : (stepI W T c 1 = -1 ∧ stepI W T c 1 = -1 ∧ stepI W T c 1 = -1 ∧ stepI W T c 1 = -1 ∧ stepI W T c 1 = -1) ∨ (stepI W T c 1 = (c : Int) + 1 ∧ (c : Int) + 1 < cs.length ∧ atb cs ((c : Int) + 1) = false ∧ atb cs ((c : Int) + 1) = false ∧ atb cs ((c : Int) + 1) = false) ∨
      (stepI W T c 1 = (c : Int) + 1 ∧ (c : Int) + 1 < cs.length ∧ atb cs ((c : Int) + 1) = true ∧ s / 2 % 2 = 1 ∧ (s : Int) / 2 % 2 = 1) ∨ (stepI W T c 1 = (c : Int) + 1 ∧ (c : Int) + 1 < cs.length ∧ atb cs ((c : Int) + 1) = true ∧ s / 2 % 2 = 0 ∧ (s : Int) / 2 % 2 = 0) := by
    rcases hst1 with h | h
    · exact .inl ⟨h, h, h, h, h⟩
    · have h3 := stepE (W := W) (T := T) (c := c) h.1
      have h4 : stepI W T c 1 = (c : Int) + 1 := by omega
      have h5 : (c : Int) + 1 < cs.length := by omega
      cases h6 : atb cs ((c : Int) + 1) with
      | false => exact .inr (.inl ⟨h4, h5, rfl, rfl, rfl⟩)
      | true =>
        rcases Nat.mod_two_eq_zero_or_one (s / 2) with h7 | h7
        · exact .inr (.inr (.inr ⟨h4, h5, rfl, h7, by omega⟩))
        · exact .inr (.inr (.inl ⟨h4, h5, rfl, h7, by omega⟩))
  have eN : (stepI W T c 2 = -1 ∧ stepI W T c 2 = -1 ∧ stepI W T c 2 = -1) ∨ (stepI W T c 2 = (c : Int) + W ∧ (c : Int) + W < cs.length ∧ atb cs ((c : Int) + W) = false) ∨ (stepI W T c 2 = (c : Int) + W ∧ (c : Int) + W < cs.length ∧ atb cs ((c : Int) + W) = true) := by
    rcases hst2 with h | h
    · exact .inl ⟨h, h, h⟩
    · have h3 := stepN (W := W) (T := T) (c := c) w1 h.1
      have h4 : stepI W T c 2 = (c : Int) + W := by omega
      have h5 : (c : Int) + W < cs.length := by omega
      cases h6 : atb cs ((c : Int) + W) with
      | false => exact .inr (.inl ⟨h4, h5, rfl⟩)
      | true => exact .inr (.inr ⟨h4, h5, rfl⟩)
  have fN : freeF cs (c + W.toNat) = atb cs ((c : Int) + W) := by
    unfold freeF; congr 1; omega
  have fE : freeF cs (c + 1) = atb cs ((c : Int) + 1) := rfl
  rw [fE, fN] at hopts
  clear hst1 hst2 two1 two2
  have n1 : 0 ≤ (c : Int) + 1 := by omega
  have n2 : 0 ≤ (c : Int) + W := by omega
  have n3 : W ≤ 63 := by omega
  have n4 : 0 ≤ W - 1 := by omega
  have n5 : W - 1 ≤ 62 := by omega
  have n6 : 0 ≤ W := by omega
  have hpw : (2 : Int) ^ (W.toNat - 1) ≤ 32 ∧ 1 ≤ (2 : Int) ^ (W.toNat - 1) := by
    have h1 : 2 ^ (W.toNat - 1) ≤ 2 ^ 5 := Nat.pow_le_pow_right (by omega) (by omega)
    have h2 : 0 < 2 ^ (W.toNat - 1) := Nat.pow_pos (by omega)
    have h3 : ((2 ^ (W.toNat - 1) : Nat) : Int) = 2 ^ (W.toNat - 1) := by simp
    omega
  have hs64 : s < 64 := by
    have h1 : 2 ^ W.toNat ≤ 2 ^ 6 := Nat.pow_le_pow_right (by omega) (by omega)
    have := hlt.1
    omega
  rcases eE with ⟨a1, a2, a3, a4, a5⟩ | ⟨a1, a2, a3, a4, a5⟩ | ⟨a1, a2, a3, a4, a5⟩ | ⟨a1, a2, a3, a4, a5⟩ <;> rcases eN with ⟨b1, b2, b3⟩ | ⟨b1, b2, b3⟩ | ⟨b1, b2, b3⟩ <;>
  · simp [a1, a2, a3, a5, b1, b2, b3, n1, n2, n3, n4, n5, n6, hshr, hW1]
    (repeat' first | omega | (refine hl1 ?_ ?_ ?_) | apply And.intro)
    · simp [hopts, a1, a2, a3, a4, b1, b2, b3, n1, n2]
    · simp [hopts, a1, a2, a3, a4, b1, b2, b3, n1, n2, natI, ints]
    · simp
      exact ⟨by omega, next⟩

end Go.Proofs.Dev

namespace Go.Proofs.Dev
set_option linter.unusedSimpArgs false
set_option maxRecDepth 100000

theorem s_spec_TilingsMany (W T : Int) (cs : List Bool) (hb : cs.length < 2 ^ 40) :
    SoundAt Tryz.prog n_spec_TilingsMany [.agg [.v (.int .i64 W), .v (.int .i64 T), .sl 1 1 (bools cs)]] (.v (.int .i64 (tmI W T cs))) [.bot] := by
  refine fn_ok (md := md0) (ms := [false]) k_spec_TilingsMany (by simp) ?_
  simp [c_spec_TilingsMany]
  refine call_on (s_spec_RegionValid W T cs hb) ?_
  cases hr : regB W T cs with
  | false => simp [tmI, hr]
  | true =>
  have h36 := regB_len hr
  obtain ⟨w1, w2, t1, t2, l1, _⟩ := regB_W hr
  simp
  refine loop_by (fun m E H => ∃ (c : Nat) (P : List (Nat × Nat)), m = cs.length - c ∧ c ≤ cs.length ∧ OkP W T (freeF cs) cs.length c (cntF W T cs.length 0 (freeF cs)) P ∧
    H = [tmBox W T cs, some (.arr 1 (ints (fsL P))), some (.arr 1 (ints (snL P)))] ∧
    E = [(1, .lp 0 0 0 0), (3, .ls 1 1 0 P.length), (4, .ls 1 2 0 P.length), (5, .v (.int .i64 c))]) cs.length ⟨0, [(0, 1)], rfl, by omega, okP_start w1, by simp [fsL, snL, ints], by simp⟩ ?_
  rintro J hJ m E H ⟨c, P, rfl, hc', hP, rfl, rfl⟩
  by_cases hc : c < cs.length
  · simp [c_spec_TilingsMany_L3, hc]
    refine tm_L2 W T cs hr c _ hc P hP rfl rfl ?_
    intro Q hQ
    simp
    exact ⟨by omega, _, by omega, hJ _ _ _ ⟨c + 1, Q, rfl, hc, mid_end hP hQ, rfl, by simp⟩⟩
  have : c = cs.length := by omega
  subst this
  obtain ⟨e1, e2⟩ := okP_end hP
  have hPs : wsum (fun _ => 1) P ≤ 2 ^ 36 := Nat.le_trans hP.sum (Nat.pow_le_pow_right (by omega) h36)
  have hPl : P.length ≤ 2 ^ 36 := Nat.le_trans hP.len (Nat.pow_le_pow_right (by omega) h36)
  have hfin : tmI W T cs = ((wsum (fun _ => 1) P : Nat) : Int) := by rw [tmI, if_pos hr, e2]
  rw [hfin]
  simp [c_spec_TilingsMany_L3]
  clear hJ J
  refine loop_by (fun m E H => ∃ k : Nat, m = P.length - k ∧ k ≤ P.length ∧
    H = [some (.arr 1 (ints (fsL P))), some (.arr 1 (ints (snL P)))] ∧
    E = [(3, .ls 1 0 0 P.length), (4, .ls 1 1 0 P.length), (16, .v (.int .i64 (wsum (fun _ => 1) (P.take k)))), (17, .v (.int .i64 k))]) P.length ⟨0, by simp [wsum]⟩ ?_
  rintro J hJ m E H ⟨k, rfl, hk', rfl, rfl⟩
  by_cases hk : k < P.length
  · have h0 : ati (fsL P) k = 0 := by
      rw [fsL_at hk]
      have := e1 P[k] (List.getElem_mem hk)
      omega
    have h1 := snL_at hk
    have h2 : wsum (fun _ => 1) (P.take (k + 1)) = wsum (fun _ => 1) (P.take k) + P[k].2 := by
      rw [List.take_succ_eq_append_getElem hk, wsum_append]; simp [wsum]
    have h3 := wsum_take (fun _ => 1) P (k + 1)
    simp [c_spec_TilingsMany_L4, hk, h0, h1]
    exact ⟨by omega, by omega, _, by omega, hJ _ _ _ ⟨k + 1, rfl, hk, rfl, by rw [h2]; simp⟩⟩
  · have : k = P.length := by omega
    subst this
    simp [c_spec_TilingsMany_L4]

theorem manyOf_set_le : ∀ (cs : List Bool) (i : Nat), manyOf (cs.set i false) ≤ manyOf cs
  | [], i => by simp
  | c :: cs, 0 => by simp [manyOf]
  | c :: cs, i + 1 => by have := manyOf_set_le cs i; simp [manyOf]; omega

/-- A region without some cells. -/
def lessL (cs : List Bool) (xs : List Int) : List Bool := xs.foldl (fun cs x => cs.set x.toNat false) cs
@[simp] theorem lessL_length : ∀ (xs : List Int) (cs : List Bool), (lessL cs xs).length = cs.length
  | [], cs => rfl
  | x :: xs, cs => by
    have := lessL_length xs (cs.set x.toNat false)
    unfold lessL at this ⊢
    rw [List.foldl_cons, this]; simp
theorem lessL_many : ∀ (xs : List Int) (cs : List Bool), manyOf (lessL cs xs) ≤ manyOf cs
  | [], cs => Nat.le_refl _
  | x :: xs, cs => by
    have := lessL_many xs (cs.set x.toNat false)
    have h2 := manyOf_set_le cs x.toNat
    unfold lessL at this ⊢
    rw [List.foldl_cons]; omega
theorem lessL_reg {W T : Int} {cs : List Bool} (xs : List Int) (hr : regB W T cs = true) : regB W T (lessL cs xs) = true := by
  obtain ⟨w1, w2, t1, t2, l1, m⟩ := regB_W hr
  have := lessL_many xs cs
  simp only [regB, decide_eq_true_eq]
  exact ⟨w1, w2, t1, t2, by rw [lessL_length]; exact l1, by omega⟩
theorem lessL_take {cs : List Bool} {xs : List Int} {k : Nat} (h : k < xs.length) : lessL cs (xs.take (k + 1)) = (lessL cs (xs.take k)).set (ati xs k).toNat false := by
  unfold lessL
  rw [List.take_succ_eq_append_getElem h, List.foldl_append]
  simp [ati, h]
theorem lessL_at : ∀ (xs : List Int) (cs : List Bool) (i : Nat), (∀ x ∈ xs, 0 ≤ x) → atb (lessL cs xs) i = (atb cs i && !decide ((i : Int) ∈ xs))
  | [], cs, i, _ => by simp [lessL]
  | x :: xs, cs, i, hx => by
    have ih := lessL_at xs (cs.set x.toNat false) i (fun y hy => hx y (by simp [hy]))
    have h0 := hx x (by simp)
    unfold lessL at ih ⊢
    rw [List.foldl_cons, ih]
    have e : atb (cs.set x.toNat false) i = (atb cs i && !decide ((i : Int) = x)) := by
      simp only [atb, Int.toNat_natCast, List.getD_eq_getElem?_getD, List.getElem?_set]
      by_cases h : x.toNat = i
      · have h2 : (i : Int) = x := by omega
        rw [if_pos h]
        by_cases h3 : x.toNat < cs.length
        · simp [h2, h3]
        · simp [h2, h3]
      · have h2 : ¬ (i : Int) = x := by omega
        rw [if_neg h]; simp [h2]
    rw [e]
    by_cases h1 : (i : Int) = x
    · simp [h1]
    · simp [h1]

theorem s_spec_l3Less (W T : Int) (cs : List Bool) (xs : List Int) (hb : cs.length < 2 ^ 40) (hl : xs.length < 2 ^ 40) (hx : ∀ x ∈ xs, 0 ≤ x ∧ x < cs.length) :
    SoundAt Tryz.prog n_spec_l3Less [.agg [.v (.int .i64 W), .v (.int .i64 T), .sl 1 1 (bools cs)], .sl 1 1 (ints xs)] (.agg [.v (.int .i64 W), .v (.int .i64 T), .os 1 (bools (lessL cs xs))]) [.bot, .bot] := by
  refine fn_okB (md := md0) (ms := [false, false]) k_spec_l3Less (by simp) ?_
  simp [c_spec_l3Less_E]
  refine frz_on rfl rfl rfl ?_
  simp
  refine ⟨by omega, ?_⟩
  simp [c_spec_l3Less_T1]
  refine loop_by (fun m E H => ∃ k : Nat, m = xs.length - k ∧ k ≤ xs.length ∧
    H = [some (.box [.v (.int .i64 0), .v (.int .i64 0), .os 1 []]), some (.box [.v (.int .i64 W), .v (.int .i64 T), .ls 1 2 0 cs.length]), some (.arr 1 (bools (lessL cs (xs.take k))))] ∧
    E = [(1, .sl 1 1 (ints xs)), (4, .lp 0 0 0 0), (5, .lp 0 1 0 0), (6, .v (.int .i64 k))]) xs.length ⟨0, by simp [lessL]⟩ ?_
  rintro J hJ m E H ⟨k, rfl, hk', rfl, rfl⟩
  by_cases hk : k < xs.length
  case neg =>
    have : k = xs.length := by omega
    subst this
    simp [c_spec_l3Less_L0]
    exact List.take_of_length_le (by simp)
  have hin : ati xs k ∈ xs := by simp [ati, hk]
  obtain ⟨h0, h1⟩ := hx _ hin
  have hstep := lessL_take (cs := cs) hk
  simp [c_spec_l3Less_L0, hk, h0, h1, bools_set]
  refine ⟨by omega, _, by omega, hJ _ _ _ ⟨k + 1, rfl, hk, by rw [hstep], by simp⟩⟩

/-- The cells with a domino. -/
def covL (ls : List Int) (n : Nat) : List Int := (List.range n).flatMap fun k : Nat => if ati ls k = 0 then [] else [(k : Int)]
theorem covL_succ (ls : List Int) (n : Nat) : covL ls (n + 1) = covL ls n ++ if ati ls n = 0 then [] else [(n : Int)] := by simp [covL, List.range_succ]
theorem covL_length (ls : List Int) : ∀ n, (covL ls n).length ≤ n
  | 0 => by simp [covL]
  | n + 1 => by have := covL_length ls n; rw [covL_succ]; split <;> simp <;> omega
theorem covL_mem {ls : List Int} {n : Nat} {x : Int} : x ∈ covL ls n ↔ ∃ k : Nat, k < n ∧ ati ls k ≠ 0 ∧ x = k := by
  simp only [covL, List.mem_flatMap, List.mem_range]
  constructor
  · rintro ⟨k, hk, hx⟩
    split at hx
    · cases hx
    · rename_i h; exact ⟨k, hk, h, by simpa using hx⟩
  · rintro ⟨k, hk, h, rfl⟩
    exact ⟨k, hk, by rw [if_neg h]; simp⟩

def cntT (W T : Int) (cs : List Bool) (ls : List Int) : Nat := cntF W T cs.length 0 (bareB cs ls)
def withI (W T : Int) (cs : List Bool) (ls : List Int) : Int := tmI W T (lessL cs (covL ls ls.length))

theorem withI_eq {W T : Int} {cs : List Bool} {ls : List Int} (hr : regB W T cs = true) (hl : ls.length = cs.length) : withI W T cs ls = ((cntT W T cs ls : Nat) : Int) := by
  rw [withI, tmI, if_pos (lessL_reg _ hr), lessL_length, cntT]
  congr 1
  apply cntF_congr
  intro i _
  have h := lessL_at (covL ls ls.length) cs i (fun x hx => by obtain ⟨k, _, _, rfl⟩ := covL_mem.1 hx; omega)
  unfold freeF
  rw [h]
  by_cases hi : i < cs.length
  · by_cases hz : ati ls i = 0
    · have : ¬ ((i : Int) ∈ covL ls ls.length) := by
        intro hm
        obtain ⟨k, _, h1, h2⟩ := covL_mem.1 hm
        have : k = i := by omega
        subst this; exact h1 hz
      simp [bareB, hz, this]
    · have : (i : Int) ∈ covL ls ls.length := covL_mem.2 ⟨i, by omega, hz, rfl⟩
      simp [bareB, hz, this]
  · have := free_out (cs := cs) i (by omega)
    unfold freeF at this
    simp [bareB, this]

theorem s_spec_l3With (W T : Int) (cs : List Bool) (ls : List Int) (hb : cs.length < 2 ^ 40) (hl : ls.length ≤ cs.length) :
    SoundAt Tryz.prog n_spec_l3With [.agg [.v (.int .i64 W), .v (.int .i64 T), .sl 1 1 (bools cs)], .sl 1 1 (ints ls)] (.v (.int .i64 (withI W T cs ls))) [.bot, .bot] := by
  refine fn_ok (md := md0) (ms := [false, false]) k_spec_l3With (by simp) ?_
  simp [c_spec_l3With]
  refine loop_by (fun m E H => ∃ k : Nat, m = ls.length - k ∧ k ≤ ls.length ∧
    H = [some (.box [.v (.int .i64 W), .v (.int .i64 T), .sl 1 1 (bools cs)]), some (.arr 1 (ints (covL ls k)))] ∧
    E = [(1, .sl 1 1 (ints ls)), (2, .lp 0 0 0 0), (5, .ls 1 1 0 (covL ls k).length), (6, .v (.int .i64 k))]) ls.length ⟨0, by simp [covL]⟩ ?_
  rintro J hJ m E H ⟨k, rfl, hk', rfl, rfl⟩
  have hcl := covL_length ls k
  by_cases hk : k < ls.length
  case neg =>
    have : k = ls.length := by omega
    subst this
    simp [c_spec_l3With_L0]
    refine call_on (s_spec_l3Less W T cs (covL ls ls.length) hb (by omega) ?_) ?_
    · intro x hx
      obtain ⟨j, hj, _, rfl⟩ := covL_mem.1 hx
      omega
    simp
    refine call_on (s_spec_TilingsMany W T (lessL cs (covL ls ls.length)) (by simpa using hb)) ?_
    have htk : (bools (lessL cs (covL ls ls.length))).take cs.length = bools (lessL cs (covL ls ls.length)) := List.take_of_length_le (by simp)
    simp [withI, htk]
  have hs := covL_succ ls k
  by_cases hz : ati ls k = 0
  · rw [if_pos hz, List.append_nil] at hs
    simp [c_spec_l3With_L0, hk, hz]
    exact ⟨by omega, _, by omega, hJ _ _ _ ⟨k + 1, rfl, hk, by rw [hs], by rw [hs]; simp⟩⟩
  · rw [if_neg hz] at hs
    simp [c_spec_l3With_L0, hk, hz]
    refine ⟨by omega, by omega, _, by omega, hJ _ _ _ ⟨k + 1, rfl, hk, ?_, ?_⟩⟩
    · rw [hs, ints_append]; rfl
    · rw [hs]; simp

theorem cnt_split {W T : Int} {cs : List Bool} {ls : List Int} {k : Nat} (hr : regB W T cs = true) (hy : laysB W T cs ls = true) (hb : bareI cs ls = k) :
    cntT W T cs ls = (if freeB W T cs ls k 1 = true then cntT W T cs (layI W T ls k 1) else 0) + (if freeB W T cs ls k 2 = true then cntT W T cs (layI W T ls k 2) else 0) := by
  rcases bare_cases cs ls with h | ⟨k', hk, he, hc, hz⟩
  · omega
  have : k' = k := by omega
  subst this
  have hzp := zeros_pos hk hz
  obtain ⟨m, hm⟩ : ∃ m, zeros ls = m + 1 := ⟨zeros ls - 1, by omega⟩
  unfold cntT
  rw [cnt_allT hr (m + 1) ls (by omega) hy, allT, if_neg (by omega), hb, List.length_append]
  have one : ∀ way : Int, way = 1 ∨ way = 2 → (if freeB W T cs ls k' way = true then allT W T cs m (layI W T ls k' way) else []).length = if freeB W T cs ls k' way = true then cntF W T cs.length 0 (bareB cs (layI W T ls k' way)) else 0 := by
    intro way hw
    split
    · rename_i hf
      have := lay_zeros (W := W) (T := T) (way := way) hk hz (by omega) (by omega)
      rw [cnt_allT hr m _ (by omega) (lay_ok hr hy hf)]
    · rfl
  rw [one 1 (.inl rfl), one 2 (.inr rfl)]

def listSet (n : Nat) (r : AV) (ups : List AV) : Prop := ∃ (ls : List Int) (b : Bool), ls.length ≤ n ∧ r = .tup [.os 1 (ints ls), .v (.bool b)] ∧ ups = [.bot, .bot]

theorem s_spec_TilingOf (W T : Int) (cs : List Bool) (rank : Int) (hb : cs.length < 2 ^ 40) :
    SoundSet Tryz.prog n_spec_TilingOf [.agg [.v (.int .i64 W), .v (.int .i64 T), .sl 1 1 (bools cs)], .v (.int .i64 rank)] (listSet cs.length) := by
  refine fn_okS (md := md0) (ms := [false, false]) k_spec_TilingOf (by simp) ?_
  simp [c_spec_TilingOf]
  refine call_on (s_spec_RegionValid W T cs hb) ?_
  cases hr : regB W T cs with
  | false => simp [FinS, listSet]
  | true =>
  have h36 := regB_len hr
  simp
  refine call_on (s_spec_TilingsMany W T cs hb) ?_
  have hcnt : tmI W T cs = ((cntT W T cs (noneL cs) : Nat) : Int) := by
    rw [tmI, if_pos hr, cntT]
    congr 1
    apply cntF_congr
    intro i _
    simp [freeF, bareB, ati_none]
  have hle : cntT W T cs (noneL cs) ≤ 2 ^ 36 := Nat.le_trans (cntF_le _ _ _) (Nat.pow_le_pow_right (by omega) h36)
  rw [hcnt]
  simp
  refine ⟨by omega, ?_⟩
  refine call_on (s_spec_l1In rank 0 (((cntT W T cs (noneL cs) : Nat) : Int) - 1)) ?_
  by_cases hx : 0 ≤ rank ∧ rank ≤ ((cntT W T cs (noneL cs) : Nat) : Int) - 1
  case neg =>
    have hx2 : (decide (0 ≤ rank) && decide (rank ≤ ((cntT W T cs (noneL cs) : Nat) : Int) - 1)) = false := by simp; omega
    simp [hx2, FinS, listSet]
  obtain ⟨rk, rfl⟩ : ∃ rk : Nat, rank = rk := ⟨rank.toNat, by omega⟩
  have hx2 : (rk : Int) ≤ ((cntT W T cs (noneL cs) : Nat) : Int) - 1 := hx.2
  simp [hx2]
  refine call_on (s_spec_LaidBare W T cs hb) ?_
  have hn : (noneL cs).length = cs.length := by simp [noneL]
  simp [hr]
  refine call_on (s_spec_l2First W T cs (noneL cs) hn hb) ?_
  simp
  refine loop_by (fun m E H => ∃ (rk : Nat) (now : List Int), m = zeros now ∧ laysB W T cs now = true ∧ rk < cntT W T cs now ∧
    H = [some (.box [.v (.int .i64 W), .v (.int .i64 T), .sl 1 1 (bools cs)]), some (.arr 1 (ints now))] ∧
    E = [(1, .v (.int .i64 rk)), (2, .lp 0 0 0 0), (6, .ls 1 1 0 now.length), (7, .v (.int .i64 (bareI cs now)))]) (zeros (noneL cs)) ⟨rk, noneL cs, rfl, lays_none W T cs, by omega, rfl, by simp⟩ ?_
  rintro J hJ m E H ⟨rk, now, rfl, hy, hlt, rfl, rfl⟩
  have hnl := lays_len hy
  rcases bare_cases cs now with hneg | ⟨k, hk, he, hc, hz⟩
  · simp [c_spec_TilingOf_L0, hneg, FinS, listSet]
    exact ⟨now, by omega, rfl⟩
  have hsplit := cnt_split hr hy he
  have hle2 : cntT W T cs now ≤ 2 ^ 36 := Nat.le_trans (cntF_le _ _ _) (Nat.pow_le_pow_right (by omega) h36)
  have goon : ∀ (way : Int) (rk2 : Nat), way = 1 ∨ way = 2 → freeB W T cs now k way = true → rk2 < cntT W T cs (layI W T now k way) →
      again J (zeros now) [(1, .v (.int .i64 rk2)), (2, .lp 0 0 0 0), (6, .ls 1 1 0 now.length), (7, .v (.int .i64 (bareI cs (layI W T now k way))))]
        [some (.box [.v (.int .i64 W), .v (.int .i64 T), .sl 1 1 (bools cs)]), some (.arr 1 (ints (layI W T now k way)))] := by
    intro way rk2 hw hf hlt2
    exact ⟨_, lay_zeros hk hz (by omega) (by omega), hJ _ _ _ ⟨rk2, _, rfl, lay_ok hr hy hf, hlt2, rfl, by simp [layI_length]⟩⟩
  have first2 := s_spec_l2First W T cs (layI W T now k 2) (by rw [layI_length]; exact hnl) hb
  have two (hf2 : freeB W T cs now k 2 = true) := s_spec_LayOne W T cs now k 2 hr hy
  have l2 (hf2 : freeB W T cs now k 2 = true) : layOneL W T cs now k 2 = layI W T now k 2 := by simp [layOneL, hf2]
  have ll : ∀ way : Int, (layI W T now k way).length = now.length := fun way => layI_length ..
  have tk : ∀ way : Int, (ints (layI W T now k way)).take now.length = ints (layI W T now k way) := fun way => List.take_of_length_le (by simp [ll])
  simp [c_spec_TilingOf_L0, he]
  refine call_on (s_spec_LayOne W T cs now k 1 hr hy) ?_
  simp
  cases hf1 : freeB W T cs now k 1 with
  | false =>
    have hf2 : freeB W T cs now k 2 = true := by
      cases h : freeB W T cs now k 2 with
      | true => rfl
      | false => simp [hf1, h] at hsplit; omega
    simp [hf1, hf2] at hsplit
    simp
    refine ⟨by omega, ?_⟩
    refine call_on (two hf2) ?_
    rw [l2 hf2, hf2]
    simp
    refine call_on first2 ?_
    simp [ll, tk]
    exact goon 2 rk (.inr rfl) hf2 (by omega)
  | true =>
    have l1' : layOneL W T cs now k 1 = layI W T now k 1 := by simp [layOneL, hf1]
    have first1 := s_spec_l2First W T cs (layI W T now k 1) (by rw [layI_length]; exact hnl) hb
    rw [l1']
    simp
    refine call_on (s_spec_l3With W T cs (layI W T now k 1) hb (by rw [layI_length]; omega)) ?_
    rw [withI_eq hr (by rw [layI_length]; exact hnl)]
    by_cases hm : rk < cntT W T cs (layI W T now k 1)
    · have hm' : ¬ cntT W T cs (layI W T now k 1) ≤ rk := by omega
      simp [hm']
      refine call_on first1 ?_
      simp [ll, tk]
      exact goon 1 rk (.inl rfl) hf1 hm
    · have hm' : cntT W T cs (layI W T now k 1) ≤ rk := by omega
      have hf2 : freeB W T cs now k 2 = true := by
        cases h : freeB W T cs now k 2 with
        | true => rfl
        | false => simp [hf1, h] at hsplit; omega
      simp [hf1, hf2] at hsplit
      simp [hm']
      refine ⟨by omega, ?_⟩
      refine call_on (two hf2) ?_
      rw [l2 hf2, hf2]
      simp
      refine call_on first2 ?_
      simp [ll, tk]
      have e : (rk : Int) - (cntT W T cs (layI W T now k 1) : Nat) = ((rk - cntT W T cs (layI W T now k 1) : Nat) : Int) := by omega
      rw [e]
      exact goon 2 (rk - cntT W T cs (layI W T now k 1)) (.inr rfl) hf2 (by omega)

end Go.Proofs.Dev
