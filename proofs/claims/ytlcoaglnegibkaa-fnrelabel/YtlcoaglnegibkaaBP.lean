/- Contracts of the functions of the program over slots and rows, each proved against the program itself; no condition beyond those that each theorem names. -/
import Derived.Test.YtlcoaglnegibkaaBJ
import Derived.Test.YtlcoaglnegibkaaBN

set_option linter.unusedSimpArgs false
set_option linter.unusedVariables false

namespace Go.Proofs.Dev
set_option linter.unusedSimpArgs false
set_option maxRecDepth 100000

def drawN (r : AV) (ups : List AV) : Prop := ∃ (W T : Int) (cs : List Bool) (ds ns : List Int), r = .tup [regA W T cs, .os 1 (ints ds), .os 1 (ints ns)] ∧ cs.length ≤ 37 ∧ ds.length ≤ 37 ∧ ns.length ≤ 38 ∧ ups = [.bot]

theorem s_spec_DrawRelabel (bs : List Int) (hb : bs.length ≤ 2 ^ 60) (hB : Byt bs) : SoundSet Try.prog n_spec_DrawRelabel [.sl 0 1 (u8s bs)] drawN := by
  have hb2 : (bs.take 2000).length ≤ 2000 := by simp; omega
  have hB2 := byt_take hB 2000
  refine fn_okS (md := md5) (ms := [false]) k_spec_DrawRelabel (by simp) ?_
  simp [c_spec_DrawRelabel]
  refine call_on (s_spec_l20Open bs hb) ?_
  simp
  refine call_onK (s_spec_l20Puzzle (bs.take 2000) 0 9 hb2 hB2 (by omega) (by omega) (by omega)) [1] (by simp) (by simp) (by simp) ?_
  rintro _ _ ⟨W, T, cs, ds, q, rfl, hcs, hds, hq, rfl⟩
  simp [regA]
  refine loop_by (fun m E H => ∃ (i : Nat) (ns : List Int) (q2 : Nat), m = 7 - i ∧ i ≤ 7 ∧ ns.length = i ∧ q2 ≤ 700 + i ∧ E = [(2, .lp 0 0 0 0), (5, .lp 0 1 0 0), (6, .lp 0 2 0 0), (7, .ls 1 3 0 ds.length), (8, .ls 1 4 0 ns.length), (9, .v (.int .i64 i))] ∧ H = [some (.box [.v (.int .i64 0), .v (.int .i64 0), .os 1 []]), some (.box [.sl 0 1 (u8s (bs.take 2000)), .v (.int .i64 q2)]), some (.box [.v (.int .i64 W), .v (.int .i64 T), .ls 1 5 0 cs.length]), some (.arr 1 (ints ds)), some (.arr 1 (ints ns)), some (.arr 1 (bools cs))]) 7 ⟨0, [], q, by simp, by omega, rfl, by omega, by simp, by simp⟩ ?_
  rintro J hJ m E H ⟨i, ns, q2, rfl, hi, hn, hq2, rfl, rfl⟩
  by_cases h : (i : Int) ≤ 6
  · simp [c_spec_DrawRelabel_L0, h]
    refine ⟨by omega, ?_⟩
    refine call_onK (s_spec_l20Rd_pick (bs.take 2000) q2 (i + 1) hb2 hB2 (by omega)) [1] (by simp) (by simp) (by simp) ?_
    rintro _ _ ⟨x, h0, h1, rfl, rfl⟩
    have hx : x ≤ ns.length := by omega
    have hx2 : x.toNat ≤ ns.length := by omega
    obtain ⟨k, rfl⟩ : ∃ k : Nat, x = k := ⟨x.toNat, by omega⟩
    have hk : k ≤ ns.length := by omega
    have hf : flatL ((ints ns).drop k) = true := by
      have e : (ints ns).drop k = ints (ns.drop k) := by simp [ints]
      rw [e]; simp
    have hdk : ((ints ns).drop k).take (ns.length - k) = (ints ns).drop k := List.take_of_length_le (by simp)
    have key : (ints ns).take k ++ [.v (.int .i64 (i : Int))] ++ (ints ns).drop k = ints (ns.take k ++ [(i : Int)] ++ ns.drop k) := by simp [ints]
    have klen : (ns.take k ++ [(i : Int)] ++ ns.drop k).length = i + 1 := by simp; omega
    have hnext : q2 + 1 ≤ 700 + (i + 1) := by omega
    by_cases hke : k = ns.length
    · simp [h0, hx, hx2, hke, hdk, hf]
      have key2 : ints ns ++ [.v (.int .i64 (i : Int))] = ints (ns ++ [(i : Int)]) := by simp [ints]
      rw [key2]
      exact ⟨by omega, by omega, _, by omega, hJ _ _ _ ⟨i + 1, ns ++ [(i : Int)], q2 + 1, rfl, by omega, by simp; omega, hnext, by simp, by simp⟩⟩
    · simp [h0, hx, hx2, hk, hke, hdk, hf]
      have key2 : (ints ns).take k ++ .v (.int .i64 (i : Int)) :: (ints ns).drop k = ints (ns.take k ++ [(i : Int)] ++ ns.drop k) := by simp [ints]
      have hkl : k + 1 + (ns.length - k) = (ns.take k ++ [(i : Int)] ++ ns.drop k).length := by simp; omega
      rw [key2, hkl]
      exact ⟨by omega, by omega, by omega, by omega, _, by omega, hJ _ _ _ ⟨i + 1, ns.take k ++ [(i : Int)] ++ ns.drop k, q2 + 1, rfl, by omega, klen, hnext, by simp, by simp⟩⟩
  · have : i = 7 := by omega
    subst this
    simp [c_spec_DrawRelabel_L0]
    refine call_onK (s_spec_l20Rd_odd (bs.take 2000) q2 9 hb2 hB2 (by omega) (by omega)) [1] (by simp) (by simp) (by simp) ?_
    rintro _ _ ⟨b, q3, rfl, hq3, rfl⟩
    cases b with
    | false =>
      simp
      exact ⟨_, _, ⟨W, T, cs, ds, ns, rfl, hcs, hds, by omega, rfl⟩, by simp [regA]⟩
    | true =>
      have h7 : (ints (ns.set 0 (ati ns 1))).take 7 = ints (ns.set 0 (ati ns 1)) := List.take_of_length_le (by simp; omega)
      simp [hn, ints_set]
      exact ⟨_, _, ⟨W, T, cs, ds, ns.set 0 (ati ns 1), rfl, hcs, hds, by simp; omega, rfl⟩, by simp [regA, hn, h7]⟩
end Go.Proofs.Dev

namespace Go.Proofs.Dev
set_option linter.unusedSimpArgs false
set_option maxRecDepth 100000

theorem l_FnRelabel (bs : List Int) (hB : Byt bs) : SoundAt Try.prog n_laws_FnRelabel [.sl 0 1 (u8s bs)] (.v (.bool true)) [.bot] := by
  refine fn_ok (md := md5) (ms := [false]) k_laws_FnRelabel (by simp) ?_
  simp [c_laws_FnRelabel]
  refine fun hsz => ?_
  have hb : bs.length ≤ 2 ^ 60 := by omega
  refine call_onK (s_spec_DrawRelabel bs hb hB) [] (by simp) (by simp) (by simp) ?_
  rintro _ _ ⟨W, T, cs, ds, ns, rfl, hcs, hds, hns, rfl⟩
  have one := s_impl_Relabel W T cs ds ns (by omega) (by omega) (by omega)
  have two := s_spec_Relabel W T cs ds ns (by omega) (by omega) (by omega)
  have hl : (relI W T cs ds ns).length ≤ ds.length := by unfold relI; split <;> simp
  by_cases hz : relI W T cs ds ns = []
  · rw [hz] at one two
    simp [regA]
    refine call_on one ?_
    simp
    refine call_on two ?_
    simp
    refine call_on (s_laws_sameInts [] [] (by simp)) ?_
    simp
    refine call_on s_laws_alive ?_
    simp
  have hz2 : ¬ (relI W T cs ds ns).length = 0 := fun h => hz (List.eq_nil_of_length_eq_zero h)
  have three := s_impl_PuzzleValid W T cs (relI W T cs ds ns) (by omega) (by omega)
  have four := s_impl_SolutionsAllF W T cs (relI W T cs ds ns) (by omega) (by omega)
  have five := s_impl_SolutionsAllF W T cs ds (by omega) (by omega)
  have hc : (regB W T cs && digsB cs ds && namesB ns) = true := by
    cases hc : (regB W T cs && digsB cs ds && namesB ns) with
    | true => rfl
    | false => exact absurd (by simp only [relI, hc]; rfl) hz
  have er : relI W T cs ds ns = ds.map (nameI ns) := by rw [relI, if_pos hc]
  simp only [Bool.and_eq_true] at hc
  obtain ⟨⟨hr, hd⟩, hn⟩ := hc
  have hsol : solsI W T cs (relI W T cs ds ns) = solsI W T cs ds := by rw [er]; exact rel_sols hr hd hn
  have hd2 : digsB cs (relI W T cs ds ns) = true := by rw [er]; exact rel_digs hd hn
  rw [hr, hd2] at three
  rw [hsol] at four
  generalize relI W T cs ds ns = rs at *
  simp [regA]
  refine call_on one ?_
  simp
  refine call_on two ?_
  simp
  refine call_on (s_laws_sameInts rs rs (by omega)) ?_
  simp [hz, hz2]
  have hsl := sols_length (W := W) (T := T) (cs := cs) (ds := ds)
  have hlen : ∀ p ∈ solsI W T cs ds, p.length < 2 ^ 40 := fun p hp => by rw [lays_len (fair_parts (solved_parts (mem_sols.1 hp)).1).2.2.1]; omega
  have six := s_laws_sameLists (solsI W T cs ds) (solsI W T cs ds) (by omega) hlen
  generalize solsI W T cs ds = ss at *
  simp at six
  refine call_on three ?_
  simp
  (repeat' first | omega | apply And.intro) <;>
  · refine call_on four ?_
    simp
    (repeat' first | omega | apply And.intro) <;>
    · refine call_on five ?_
      simp
      refine call_on six ?_
      simp
end Go.Proofs.Dev
