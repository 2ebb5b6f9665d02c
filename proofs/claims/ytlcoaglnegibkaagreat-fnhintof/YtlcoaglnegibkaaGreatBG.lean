/- Contracts of the functions of the program over slots and rows, each proved against the program itself; no condition beyond those that each theorem names. -/
import Derived.Test.YtlcoaglnegibkaaGreatBF

set_option linter.unusedSimpArgs false
set_option linter.unusedVariables false

namespace Go.Proofs.Dev
set_option linter.unusedSimpArgs false
set_option maxRecDepth 100000

theorem s_spec_RegionBox (W T : Int) (hW : 0 ≤ W ∧ W ≤ 100) (hT : 0 ≤ T ∧ T ≤ 100) :
    SoundAt Tryz.prog n_spec_RegionBox [.v (.int .i64 W), .v (.int .i64 T)] (if boxB W T = true then regA W T (boxL W T) else regA 0 0 []) [.bot, .bot] := by
  refine fn_ok (md := md5) (ms := [false, false]) k_spec_RegionBox (by simp) ?_
  have p0 : 0 ≤ W * T := Int.mul_nonneg hW.1 hT.1
  have p1 : W * T ≤ 100 * 100 := Int.mul_le_mul hW.2 hT.2 hT.1 (by omega)
  simp [c_spec_RegionBox]
  refine call_on (s_spec_l1In W 1 6) ?_
  by_cases h1 : 1 ≤ W ∧ W ≤ 6
  case neg =>
    have h1' : (decide (1 ≤ W) && decide (W ≤ 6)) = false := by simp; omega
    have hb : boxB W T = false := by simp [boxB]; omega
    simp [h1', hb, regA]
  simp [h1]
  refine call_on (s_spec_l1In T 1 6) ?_
  by_cases h2 : 1 ≤ T ∧ T ≤ 6
  case neg =>
    have h2' : (decide (1 ≤ T) && decide (T ≤ 6)) = false := by simp; omega
    have hb : boxB W T = false := by simp [boxB]; omega
    simp [h2', hb, regA]
  simp [h2]
  refine ⟨by omega, ?_⟩
  by_cases h3 : 24 < W * T
  · have hb : boxB W T = false := by simp [boxB]; omega
    have h3' : ¬ W * T ≤ 24 := by omega
    simp [h3, h3', hb, regA]
  have hb : boxB W T = true := by simp [boxB]; omega
  have h3' : W * T ≤ 24 := by omega
  simp [h3, h3', hb]
  obtain ⟨N, hN⟩ : ∃ N : Nat, W * T = N := ⟨(W * T).toNat, by omega⟩
  have hL : boxL W T = List.replicate N true := by unfold boxL; congr 1; omega
  rw [hL]
  refine loop_by (fun m E H => ∃ i : Nat, m = N - i ∧ i ≤ N ∧ E = [(0, .v (.int .i64 W)), (1, .v (.int .i64 T)), (4, .lp 0 0 0 0), (5, .lp 0 1 0 0), (6, .v (.int .i64 i))] ∧
    H = some (.box [.v (.int .i64 0), .v (.int .i64 0), .os 1 []]) :: growR W T 2 (List.replicate i true)) N ⟨0, rfl, by omega, by simp, by simp [growR]⟩ ?_
  rintro J hJ m E H ⟨i, rfl, hi, rfl, rfl⟩
  by_cases h : i < N
  · have h' : (i : Int) < W * T := by omega
    by_cases h0 : i = 0
    · subst h0
      have h'' : (0 : Int) < W * T := by simpa using h'
      simp [c_spec_RegionBox_L0, growR, h'']
      refine ⟨by omega, _, by omega, hJ _ _ _ ⟨1, rfl, by omega, by simp, by simp [growR, bools]⟩⟩
    · have e : bools (List.replicate i true) ++ [.v (.bool true)] = bools (List.replicate (i + 1) true) := by rw [List.replicate_succ', bools_append]; rfl
      simp [c_spec_RegionBox_L0, growR, h', h0, e]
      exact ⟨by omega, by omega, by omega, _, by omega, hJ _ _ _ ⟨i + 1, rfl, h, by simp, by simp [growR]⟩⟩
  · have : i = N := by omega
    subst this
    have h' : ¬ (i : Int) < W * T := by omega
    have h0 : ¬ i = 0 := by
      intro h0
      subst h0
      have : 1 * 1 ≤ W * T := Int.mul_le_mul h1.1 h2.1 (by omega) (by omega)
      omega
    simp [c_spec_RegionBox_L0, growR, h', h0, regA]
    exact ⟨by omega, List.take_of_length_le (by simp)⟩

theorem get4 {x : Int} (h0 : 0 ≤ x) (h1 : x < 4) : ([AV.v (.int .i64 1), AV.v (.int .i64 2), AV.v (.int .i64 3), AV.v (.int .i64 4)] : List AV)[x.toNat]? = some (.v (.int .i64 (x + 1))) := by
  obtain rfl | rfl | rfl | rfl : x = 0 ∨ x = 1 ∨ x = 2 ∨ x = 3 := by omega
  all_goals rfl

theorem get4' {x : Int} (h0 : 0 ≤ x) (h1 : x < 4) (h : x.toNat < ([AV.v (.int .i64 1), AV.v (.int .i64 2), AV.v (.int .i64 3), AV.v (.int .i64 4)] : List AV).length) : ([AV.v (.int .i64 1), AV.v (.int .i64 2), AV.v (.int .i64 3), AV.v (.int .i64 4)] : List AV)[x.toNat]'h = .v (.int .i64 (x + 1)) := by
  have := get4 h0 h1
  rw [List.getElem?_eq_getElem h] at this
  exact Option.some.inj this

theorem tried_lays {W T : Int} {cs : List Bool} {ls : List Int} {cell way : Int} (hr : regB W T cs = true) (hy : laysB W T cs ls = true) : laysB W T cs (layOneL W T cs ls cell way) = true := by
  unfold layOneL
  split
  · rename_i h; exact lay_ok hr hy h
  · exact hy
theorem layOneL_length {W T : Int} {cs : List Bool} {ls : List Int} {cell way : Int} : (layOneL W T cs ls cell way).length = ls.length := by
  unfold layOneL
  split
  · exact layI_length ..
  · rfl

theorem s_spec_l20Tiled (bs : List Int) (p : Nat) (n : Int) (hb : bs.length ≤ 2000) (hB : Byt bs) (hp : p < 2 ^ 38) (hn : n < 2 ^ 39) :
    SoundSet Tryz.prog n_spec_l20Tiled [rdA bs p, .v (.int .i64 n)] (regSet bs p 200) := by
  refine fn_okS (md := md5) (ms := [true, false]) k_spec_l20Tiled (by simp) ?_
  simp [c_spec_l20Tiled]
  refine call_onK (s_spec_l20Region bs p n hb hB (by omega) hn) [0] (by simp) (by simp) (by simp) ?_
  rintro _ _ ⟨W, T, cs, q, rfl, hcs, w0, w6, t0, t24, hq, rfl⟩
  simp [regA]
  refine call_on (s_spec_RegionValid W T cs (by omega)) ?_
  cases hr : regB W T cs with
  | false =>
    simp
    refine ⟨_, _, ⟨W, T, cs, q, rfl, hcs, w0, w6, t0, t24, by omega, rfl⟩, ?_⟩
    simp [regA]
  | true =>
  simp
  refine call_on (s_spec_LaidBare W T cs (by omega)) ?_
  simp [hr]
  have h36 := regB_len hr
  have hn0 : (noneL cs).length = cs.length := by simp [noneL]
  rw [hn0]
  refine loop_by (fun m E H => ∃ (i q : Nat) (ls : List Int), m = cs.length - i ∧ i ≤ cs.length ∧ q ≤ p + 100 + i ∧ laysB W T cs ls = true ∧
    E = [(0, .lp 0 0 0 0), (4, .lp 0 1 0 0), (5, .lp 0 2 0 0), (6, .ls 1 3 0 cs.length), (7, .v (.int .i64 i)), (87, .lp 0 0 0 0)] ∧
    H = [some (.box [.sl 0 1 (u8s bs), .v (.int .i64 q)]), some (.box [.v (.int .i64 0), .v (.int .i64 0), .os 1 []]), some (.box [.v (.int .i64 W), .v (.int .i64 T), .ls 1 4 0 cs.length]), some (.arr 1 (ints ls)), some (.arr 1 (bools cs))]) cs.length
    ⟨0, q, noneL cs, rfl, by omega, by omega, lays_none W T cs, by simp, by simp⟩ ?_
  rintro J hJ m E H ⟨i, q, ls, rfl, hi, hq2, hy, rfl, rfl⟩
  have hlen := lays_len hy
  by_cases h : i < cs.length
  · have next : ∀ x : Int, again J (cs.length - i) [(0, .lp 0 0 0 0), (4, .lp 0 1 0 0), (5, .lp 0 2 0 0), (6, .ls 1 3 0 cs.length), (7, .v (.int .i64 (i + 1))), (87, .lp 0 0 0 0)]
        [some (.box [.sl 0 1 (u8s bs), .v (.int .i64 (q + 1))]), some (.box [.v (.int .i64 0), .v (.int .i64 0), .os 1 []]), some (.box [.v (.int .i64 W), .v (.int .i64 T), .ls 1 4 0 cs.length]), some (.arr 1 (ints (layOneL W T cs ls i x))), some (.arr 1 (bools cs))] :=
      fun x => ⟨_, by omega, hJ _ _ _ ⟨i + 1, q + 1, layOneL W T cs ls i x, rfl, h, by omega, tried_lays hr hy, by simp, by simp⟩⟩
    simp [c_spec_l20Tiled_L0, h]
    (repeat' first | omega | apply And.intro) <;>
    · refine call_onK (s_spec_l20Rd_pick bs q 4 hb hB (by omega)) [0] (by simp) (by simp) (by simp) ?_
      rintro _ _ ⟨x, x0, x1, rfl, rfl⟩
      have x4 : x < 4 := by omega
      have hg := get4' x0 x4
      have one := s_spec_LayOne W T cs ls i (x + 1) hr hy
      have n2 := next (x + 1)
      have hl1 : (layOneL W T cs ls i (x + 1)).length = cs.length := by rw [layOneL_length]; exact hlen
      have htk : (ints ls).take cs.length = ints ls := List.take_of_length_le (by simp [hlen])
      simp [x0, x4, hg]
      (repeat' first | omega | apply And.intro) <;>
      · refine call_on one ?_
        simp [hlen, htk]
        cases hf : freeB W T cs ls i (x + 1) with
        | false =>
          have e : layOneL W T cs ls i (x + 1) = ls := by simp [layOneL, hf]
          rw [e] at n2
          simp
          exact ⟨by omega, n2⟩
        | true =>
          simp [hl1]
          exact ⟨by omega, n2⟩
  have : i = cs.length := by omega
  subst this
  simp [c_spec_l20Tiled_L0]
  clear hJ J
  refine loop_by (fun m E H => ∃ (i : Nat) (ls : List Int), m = cs.length - i ∧ i ≤ cs.length ∧ laysB W T cs ls = true ∧
    E = [(4, .lp 0 0 0 0), (5, .lp 0 1 0 0), (6, .ls 1 2 0 cs.length), (10, .v (.int .i64 i)), (87, .lp 0 3 0 0)] ∧
    H = [some (.box [.v (.int .i64 0), .v (.int .i64 0), .os 1 []]), some (.box [.v (.int .i64 W), .v (.int .i64 T), .ls 1 4 0 cs.length]), some (.arr 1 (ints ls)), some (.box [.sl 0 1 (u8s bs), .v (.int .i64 q)]), some (.arr 1 (bools cs))]) cs.length
    ⟨0, ls, rfl, by omega, hy, by simp, by simp⟩ ?_
  clear hy hlen
  rintro J hJ m E H ⟨i, ls, rfl, hi, hy, rfl, rfl⟩
  by_cases h : i < cs.length
  · simp [c_spec_l20Tiled_L2, h]
    refine loop_by (fun m E H => ∃ (j : Nat) (ls : List Int), m = 2 - j ∧ j ≤ 2 ∧ laysB W T cs ls = true ∧
      E = [(4, .lp 0 0 0 0), (5, .lp 0 1 0 0), (6, .ls 1 2 0 cs.length), (10, .v (.int .i64 i)), (11, .v (.int .i64 ((j + 1 : Nat) : Int))), (87, .lp 0 3 0 0)] ∧
      H = [some (.box [.v (.int .i64 0), .v (.int .i64 0), .os 1 []]), some (.box [.v (.int .i64 W), .v (.int .i64 T), .ls 1 4 0 cs.length]), some (.arr 1 (ints ls)), some (.box [.sl 0 1 (u8s bs), .v (.int .i64 q)]), some (.arr 1 (bools cs))]) 2
      ⟨0, ls, rfl, by omega, hy, by simp, by simp⟩ ?_
    clear hy ls
    rintro J2 hJ2 m2 E2 H2 ⟨j, ls, rfl, hj, hy, rfl, rfl⟩
    have hlen := lays_len hy
    by_cases hj2 : j < 2
    · have one := s_spec_LayOne W T cs ls i (j + 1) hr hy
      have hl1 : (layOneL W T cs ls i (j + 1)).length = cs.length := by rw [layOneL_length]; exact hlen
      have htk : (ints ls).take cs.length = ints ls := List.take_of_length_le (by simp [hlen])
      have hj' : (j : Int) + 1 ≤ 2 := by omega
      simp [c_spec_l20Tiled_L1, hj']
      refine call_on one ?_
      simp [hlen, htk]
      cases hf : freeB W T cs ls i (j + 1) with
      | false =>
        simp
        exact ⟨by omega, _, by omega, hJ2 _ _ _ ⟨j + 1, ls, rfl, by omega, hy, by simp, rfl⟩⟩
      | true =>
        simp [hl1]
        exact ⟨by omega, _, by omega, hJ2 _ _ _ ⟨j + 1, layOneL W T cs ls i (j + 1), rfl, by omega, tried_lays hr hy, by simp, rfl⟩⟩
    · have hj' : ¬ (j : Int) + 1 ≤ 2 := by omega
      simp [c_spec_l20Tiled_L1, hj']
      exact ⟨by omega, _, by omega, hJ _ _ _ ⟨i + 1, ls, rfl, h, hy, by simp, rfl⟩⟩
  have : i = cs.length := by omega
  subst this
  have hlen := lays_len hy
  simp [c_spec_l20Tiled_L2]
  clear hJ J
  refine loop_by (fun m E H => ∃ (i : Nat) (out : List Bool), m = cs.length - i ∧ i ≤ cs.length ∧ out.length = i ∧
    E = [(4, .lp 0 0 0 0), (6, .ls 1 1 0 cs.length), (14, .lp 0 2 0 0), (15, .v (.int .i64 i)), (87, .lp 0 3 0 0)] ∧
    H = if out = [] then [some (.box [.v (.int .i64 0), .v (.int .i64 0), .os 1 []]), some (.arr 1 (ints ls)), some (.box [.v (.int .i64 W), .v (.int .i64 T), .os 1 []]), some (.box [.sl 0 1 (u8s bs), .v (.int .i64 q)])]
      else [some (.box [.v (.int .i64 0), .v (.int .i64 0), .os 1 []]), some (.arr 1 (ints ls)), some (.box [.v (.int .i64 W), .v (.int .i64 T), .ls 1 4 0 out.length]), some (.box [.sl 0 1 (u8s bs), .v (.int .i64 q)]), some (.arr 1 (bools out))]) cs.length
    ⟨0, [], rfl, by omega, rfl, by simp, by simp⟩ ?_
  rintro J hJ m E H ⟨i, out, rfl, hi, hol, rfl, rfl⟩
  by_cases h : i < cs.length
  · have hil : i < ls.length := by omega
    by_cases ho : out = []
    · subst ho
      simp at hol
      subst hol
      simp [c_spec_l20Tiled_L3, h, hil]
      exact ⟨_, by omega, hJ _ _ _ ⟨1, [ati ls 0 != 0], rfl, by omega, rfl, by simp, by simp [bools]⟩⟩
    · simp [c_spec_l20Tiled_L3, h, hil, ho]
      have n2 : again J (cs.length - i) [(4, .lp 0 0 0 0), (6, .ls 1 1 0 cs.length), (14, .lp 0 2 0 0), (15, .v (.int .i64 (i + 1))), (87, .lp 0 3 0 0)]
          [some (.box [.v (.int .i64 0), .v (.int .i64 0), .os 1 []]), some (.arr 1 (ints ls)), some (.box [.v (.int .i64 W), .v (.int .i64 T), .ls 1 4 0 (out.length + 1)]), some (.box [.sl 0 1 (u8s bs), .v (.int .i64 q)]), some (.arr 1 (bools out ++ [.v (.bool (ati ls i != 0))]))] :=
        ⟨_, by omega, hJ _ _ _ ⟨i + 1, out ++ [ati ls i != 0], rfl, h, by simp [hol], by simp, by simp [bools_append, bools_one]⟩⟩
      (repeat' first | omega | assumption | apply And.intro)
  have : i = cs.length := by omega
  subst this
  have hne : ¬ out = [] := by
    intro h0
    obtain ⟨w1, w2, t1, t2, l1, _⟩ := regB_W hr
    have : 1 * 1 ≤ W * T := Int.mul_le_mul w1 t1 (by omega) (by omega)
    rw [h0] at hol; simp at hol; omega
  simp [c_spec_l20Tiled_L3, hne]
  refine ⟨_, _, ⟨W, T, out, q, rfl, by omega, w0, w6, t0, t24, by omega, rfl⟩, ?_⟩
  have htk : (bools out).take cs.length = bools out := List.take_of_length_le (by simp [hol])
  simp [regA, hol, htk]

end Go.Proofs.Dev

namespace Go.Proofs.Dev
set_option linter.unusedSimpArgs false
set_option maxRecDepth 100000

theorem box_set {bs : List Int} {p d q : Nat} {W T : Int} (hq : q ≤ p + d) (hW : 0 ≤ W) (hT : 0 ≤ T) :
    ∃ (W' T' : Int) (cs : List Bool), (if boxB W T = true then regA W T (boxL W T) else regA 0 0 []) = regA W' T' cs ∧ regSet bs p d (regA W' T' cs) [rdA bs q, .bot] := by
  by_cases h : boxB W T = true
  · rw [if_pos h]
    simp only [boxB, decide_eq_true_eq] at h
    exact ⟨W, T, boxL W T, rfl, W, T, boxL W T, q, rfl, by simp [boxL]; omega, by omega, by omega, by omega, by omega, hq, rfl⟩
  · rw [if_neg h]
    exact ⟨0, 0, [], rfl, 0, 0, [], q, rfl, by simp, by omega, by omega, by omega, by omega, hq, rfl⟩

abbrev n5 : List AV := [AV.v (.int .i64 2), AV.v (.int .i64 3), AV.v (.int .i64 4), AV.v (.int .i64 4), AV.v (.int .i64 6)]
abbrev n3 : List AV := [AV.v (.int .i64 2), AV.v (.int .i64 3), AV.v (.int .i64 4)]
theorem nget5 {x : Int} (h0 : 0 ≤ x) (h1 : x < 5) : ∃ v : Int, 0 ≤ v ∧ v ≤ 100 ∧ ∀ h : x.toNat < n5.length, n5[x.toNat]'h = .v (.int .i64 v) := by
  obtain rfl | rfl | rfl | rfl | rfl : x = 0 ∨ x = 1 ∨ x = 2 ∨ x = 3 ∨ x = 4 := by omega
  · exact ⟨2, by omega, by omega, fun _ => rfl⟩
  · exact ⟨3, by omega, by omega, fun _ => rfl⟩
  · exact ⟨4, by omega, by omega, fun _ => rfl⟩
  · exact ⟨4, by omega, by omega, fun _ => rfl⟩
  · exact ⟨6, by omega, by omega, fun _ => rfl⟩

theorem nget3 {x : Int} (h0 : 0 ≤ x) (h1 : x < 3) : ∃ v : Int, 0 ≤ v ∧ v ≤ 100 ∧ ∀ h : x.toNat < n3.length, n3[x.toNat]'h = .v (.int .i64 v) := by
  obtain rfl | rfl | rfl : x = 0 ∨ x = 1 ∨ x = 2 := by omega
  · exact ⟨2, by omega, by omega, fun _ => rfl⟩
  · exact ⟨3, by omega, by omega, fun _ => rfl⟩
  · exact ⟨4, by omega, by omega, fun _ => rfl⟩


set_option maxHeartbeats 4000000 in
theorem s_spec_l20Some (bs : List Int) (p : Nat) (n : Int) (hb : bs.length ≤ 2000) (hB : Byt bs) (hp : p < 2 ^ 37) (hn : n < 2 ^ 39) :
    SoundSet Tryz.prog n_spec_l20Some [rdA bs p, .v (.int .i64 n)] (regSet bs p 300) := by
  refine fn_okS (md := md5) (ms := [true, false]) k_spec_l20Some (by simp) ?_
  simp [c_spec_l20Some]
  refine call_onK (s_spec_l20Rd_pick bs p 4 hb hB (by omega)) [0] (by simp) (by simp) (by simp) ?_
  rintro _ _ ⟨x, x0, x1, rfl, rfl⟩
  by_cases c0 : x = 0
  · simp [c0]
    (repeat' first | omega | apply And.intro) <;>
    · refine call_onK (s_spec_l20Rd_pick bs (p + 1) 5 hb hB (by omega)) [0] (by simp) (by simp) (by simp) ?_
      rintro _ _ ⟨y, y0, y1, rfl, rfl⟩
      have y5 : y < 5 := by omega
      obtain ⟨v, v0, v1, hv⟩ := nget5 y0 y5
      simp [y0, y5, hv]
      (repeat' first | omega | apply And.intro) <;>
      · refine call_onK (s_spec_l20Rd_pick bs (p + 1 + 1) 3 hb hB (by omega)) [0] (by simp) (by simp) (by simp) ?_
        rintro _ _ ⟨z, z0, z1, rfl, rfl⟩
        have z3 : z < 3 := by omega
        obtain ⟨u, u0, u1, hu⟩ := nget3 z0 z3
        simp [y0, y5, hv, z0, z3, hu]
        (repeat' first | omega | apply And.intro) <;>
        · refine call_on (s_spec_RegionBox v u ⟨v0, v1⟩ ⟨u0, u1⟩) ?_
          obtain ⟨W', T', cs', e, hset⟩ := box_set (bs := bs) (p := p) (d := 300) (q := p + 1 + 1 + 1) (W := v) (T := u) (by omega) v0 u0
          rw [e]
          simp [regA]
          refine ⟨_, _, hset, ?_⟩
          simp [regA]
  by_cases c1 : x = 1
  · simp [c1]
    refine call_onK (s_spec_l20Region bs (p + 1) n hb hB (by omega) hn) [0] (by simp) (by simp) (by simp) ?_
    rintro _ _ ⟨W, T, cs, q, rfl, hcs, w0, w6, t0, t24, hq, rfl⟩
    simp [regA]
    refine ⟨_, _, ⟨W, T, cs, q, rfl, hcs, w0, w6, t0, t24, by omega, rfl⟩, ?_⟩
    simp [regA]
  simp [c0, c1]
  refine call_onK (s_spec_l20Tiled bs (p + 1) n hb hB (by omega) hn) [0] (by simp) (by simp) (by simp) ?_
  rintro _ _ ⟨W, T, cs, q, rfl, hcs, w0, w6, t0, t24, hq, rfl⟩
  simp [regA]
  refine ⟨_, _, ⟨W, T, cs, q, rfl, hcs, w0, w6, t0, t24, by omega, rfl⟩, ?_⟩
  simp [regA]

end Go.Proofs.Dev

namespace Go.Proofs.Dev
set_option linter.unusedSimpArgs false
set_option maxRecDepth 100000

abbrev n4 : List AV := [AV.v (.int .i64 2), AV.v (.int .i64 4), AV.v (.int .i64 4), AV.v (.int .i64 5)]
abbrev n2 : List AV := [AV.v (.int .i64 2), AV.v (.int .i64 3)]
theorem nget4 {x : Int} (h0 : 0 ≤ x) (h1 : x < 4) : ∃ v : Int, 0 ≤ v ∧ v ≤ 100 ∧ ∀ h : x.toNat < n4.length, n4[x.toNat]'h = .v (.int .i64 v) := by
  obtain rfl | rfl | rfl | rfl : x = 0 ∨ x = 1 ∨ x = 2 ∨ x = 3 := by omega
  · exact ⟨2, by omega, by omega, fun _ => rfl⟩
  · exact ⟨4, by omega, by omega, fun _ => rfl⟩
  · exact ⟨4, by omega, by omega, fun _ => rfl⟩
  · exact ⟨5, by omega, by omega, fun _ => rfl⟩
theorem nget2 {x : Int} (h0 : 0 ≤ x) (h1 : x < 2) : ∃ v : Int, 0 ≤ v ∧ v ≤ 100 ∧ ∀ h : x.toNat < n2.length, n2[x.toNat]'h = .v (.int .i64 v) := by
  obtain rfl | rfl : x = 0 ∨ x = 1 := by omega
  · exact ⟨2, by omega, by omega, fun _ => rfl⟩
  · exact ⟨3, by omega, by omega, fun _ => rfl⟩

set_option maxHeartbeats 4000000 in
theorem s_spec_l20Small (bs : List Int) (p : Nat) (n : Int) (hb : bs.length ≤ 2000) (hB : Byt bs) (hp : p < 2 ^ 36) (hn : n < 2 ^ 39) :
    SoundSet Tryz.prog n_spec_l20Small [rdA bs p, .v (.int .i64 n)] (regSet bs p 400) := by
  refine fn_okS (md := md5) (ms := [true, false]) k_spec_l20Small (by simp) ?_
  simp [c_spec_l20Small]
  refine call_onK (s_spec_l20Some bs p n hb hB (by omega) hn) [0] (by simp) (by simp) (by simp) ?_
  rintro _ _ ⟨W, T, cs, q, rfl, hcs, w0, w6, t0, t24, hq, rfl⟩
  simp [regA]
  refine call_on (s_spec_CellsMany W T cs (by omega)) ?_
  have fin : ∀ q2 : Nat, q2 ≤ p + 400 → regSet bs p 400 (regA W T cs) [rdA bs q2, .bot] := fun q2 h => ⟨W, T, cs, q2, rfl, hcs, w0, w6, t0, t24, h, rfl⟩
  generalize hm : (if regB W T cs = true then (manyOf cs : Int) else -1) = M
  by_cases hM : 16 < M
  · simp [hM]
    refine call_onK (s_spec_l20Rd_pick bs q 12 hb hB (by omega)) [0] (by simp) (by simp) (by simp) ?_
    rintro _ _ ⟨x, x0, x1, rfl, rfl⟩
    by_cases hx : 0 < x
    · simp [hx]
      (repeat' first | omega | apply And.intro) <;>
      · refine call_onK (s_spec_l20Rd_pick bs (q + 1) 4 hb hB (by omega)) [0] (by simp) (by simp) (by simp) ?_
        rintro _ _ ⟨y, y0, y1, rfl, rfl⟩
        have y4 : y < 4 := by omega
        obtain ⟨v, v0, v1, hv⟩ := nget4 y0 y4
        simp [y0, y4, hv]
        (repeat' first | omega | apply And.intro) <;>
        · refine call_onK (s_spec_l20Rd_pick bs (q + 1 + 1) 2 hb hB (by omega)) [0] (by simp) (by simp) (by simp) ?_
          rintro _ _ ⟨z, z0, z1, rfl, rfl⟩
          have z2 : z < 2 := by omega
          obtain ⟨u, u0, u1, hu⟩ := nget2 z0 z2
          simp [y0, y4, hv, z0, z2, hu]
          (repeat' first | omega | apply And.intro) <;>
          · refine call_on (s_spec_RegionBox v u ⟨v0, v1⟩ ⟨u0, u1⟩) ?_
            obtain ⟨W', T', cs', e, hset⟩ := box_set (bs := bs) (p := p) (d := 400) (q := q + 1 + 1 + 1) (W := v) (T := u) (by omega) v0 u0
            rw [e]
            simp [regA]
            refine ⟨_, _, hset, ?_⟩
            simp [regA]
    · simp [hx, c_spec_l20Small_T0]
      refine ⟨_, _, fin (q + 1) (by omega), ?_⟩
      simp [regA]
  · simp [hM, c_spec_l20Small_T0]
    refine ⟨_, _, fin q (by omega), ?_⟩
    simp [regA]

end Go.Proofs.Dev
