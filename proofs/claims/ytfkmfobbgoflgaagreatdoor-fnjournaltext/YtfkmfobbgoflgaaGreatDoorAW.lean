/- Contracts of the functions of the program over slots and rows, each proved against the program itself; no condition beyond those that each theorem names. -/
import Derived.Test.YtfkmfobbgoflgaaGreatDoorAV
import Derived.Test.YtfkmfobbgoflgaaGreatDoorAU
import Derived.Test.YtfkmfobbgoflgaaGreatDoorProg
import Derived.Test.YtfkmfobbgoflgaaGreatDoorAR
import Derived.Test.YtfkmfobbgoflgaaGreatDoorAN
import Derived.Test.YtfkmfobbgoflgaaGreatDoorAQ
import Derived.Test.YtfkmfobbgoflgaaGreatDoorAO
import Derived.Test.YtfkmfobbgoflgaaGreatDoorAI

set_option linter.unusedSimpArgs false
set_option linter.unusedVariables false

namespace Go.Proofs.Dev
set_option linter.unusedSimpArgs false
set_option maxRecDepth 100000

/-- A book is as it was drawn. -/
def bookSet (bs : List Int) (p d : Nat) (r : AV) (ups : List AV) : Prop := ∃ (W T : Int) (cs : List Bool) (ds ls : List Int) (ps : List (List Int)) (q : Nat), cs.length ≤ 37 ∧ ds.length ≤ 38 ∧ ls.length ≤ 38 ∧ ps.length ≤ 21 ∧ (∀ x ∈ ps, x.length ≤ 37) ∧ q ≤ p + d ∧
  r = bkO W T cs ds ls ps ∧ ups = [rdA bs q, .bot]

/-- Valid, or none at all. -/
def bookOk (W T : Int) (cs : List Bool) (ds ls : List Int) (ps : List (List Int)) : Prop := bookB W T cs ds ls ps = true ∨ (cs = [] ∧ ds = [] ∧ ls = [] ∧ ps = [])

theorem bookOk_len {W T : Int} {cs : List Bool} {ds ls : List Int} {ps : List (List Int)} (h : bookOk W T cs ds ls ps) : cs.length ≤ 36 ∧ ds.length ≤ 36 ∧ ls.length ≤ 36 ∧ ps.length ≤ 20 ∧ ∀ x ∈ ps, x.length ≤ 36 := by
  rcases h with h | ⟨rfl, rfl, rfl, rfl⟩
  · obtain ⟨h1, h2, h3⟩ := book_parts h
    obtain ⟨a1, a2, a3⟩ := fair_len h1
    refine ⟨a1, by omega, by omega, h2, fun x hx => ?_⟩
    have := fair_len (h3 x hx)
    omega
  · simp

theorem bare_lays {W T : Int} {cs : List Bool} : laysB W T cs (noneL cs) = true := by
  simp only [laysB, Bool.and_eq_true, decide_eq_true_eq, allB_iff]
  refine ⟨by simp [noneL], fun k hk => ?_⟩
  have : ati (noneL cs) k = 0 := by
    simp only [noneL, List.length_replicate] at hk
    simp [ati, noneL, hk]
  simp [layAt, this]
theorem none_ati (cs : List Bool) (k : Nat) : ati (noneL cs) k = 0 := by
  simp only [ati, noneL, Int.toNat_natCast, List.getD_eq_getElem?_getD]
  by_cases h : k < cs.length
  · simp [h]
  · simp [h]
theorem bare_fair {W T : Int} {cs : List Bool} {ds : List Int} (hr : regB W T cs = true) (hd : digsB cs ds = true) : fairB W T cs ds (noneL cs) = true := by
  refine fair_of hr hd bare_lays ?_
  have : pairsI W T ds (noneL cs) = [] := by
    simp [pairsI, pairsTo, none_ati]
  rw [this]; rfl

theorem new_ok (W T : Int) (cs : List Bool) (ds : List Int) : ∃ (W2 T2 : Int) (cs2 : List Bool) (ds2 ls2 : List Int), newB W T cs ds = bkO W2 T2 cs2 ds2 ls2 [] ∧ bookOk W2 T2 cs2 ds2 ls2 [] := by
  unfold newB
  split
  · rename_i h
    simp only [Bool.and_eq_true] at h
    exact ⟨W, T, cs, ds, noneL cs, rfl, .inl (book_of (bare_fair h.1 h.2) (by simp) (by simp))⟩
  · exact ⟨0, 0, [], [], [], rfl, .inr ⟨rfl, rfl, rfl, rfl⟩⟩

/-- What is laid after a deed is fair, and so is what is past. -/
theorem do_ok {W T : Int} {cs : List Bool} {ds ls : List Int} {ps : List (List Int)} (k s w : Int) (h : bookB W T cs ds ls ps = true) : bookB W T cs ds (doI W T cs ds ls ps k s w).2.1 (doI W T cs ds ls ps k s w).2.2 = true := by
  obtain ⟨h1, h2, h3⟩ := book_parts h
  unfold doI doRes
  split
  · exact h
  split
  · rcases List.eq_nil_or_concat ps with rfl | ⟨qs, q, hq⟩
    · exact h
    · rw [List.concat_eq_append] at hq
      subst hq
      simp only [List.getLast?_append, List.getLast?_singleton, Option.some_or, List.dropLast_concat]
      simp at h2
      exact book_of (h3 q (by simp)) (by omega) (fun p hp => h3 p (by simp [hp]))
  split
  · rename_i hb
    simp only [Bool.and_eq_true] at hb
    refine book_of hb.2 ?_ ?_
    · simp [bkPast]; omega
    · intro p hp
      have := List.mem_of_mem_drop hp
      simp at this
      rcases this with h4 | rfl
      · exact h3 p h4
      · exact h1
  · exact h

theorem bdo (W T : Int) (cs : List Bool) (ds ls : List Int) (ps : List (List Int)) (k s w : Int) (hk : bookOk W T cs ds ls ps) :
    ∃ (d : Bool) (W2 T2 : Int) (cs2 : List Bool) (ds2 ls2 : List Int) (ps2 : List (List Int)), SoundAt Tryz.prog n_spec_BookDo [bkA W T cs ds ls ps, deedV k s w] (.tup [bkO W2 T2 cs2 ds2 ls2 ps2, .v (.bool d)]) [.bot, .bot] ∧ bookOk W2 T2 cs2 ds2 ls2 ps2 := by
  obtain ⟨a1, a2, a3, a4, a5⟩ := bookOk_len hk
  have := s_spec_BookDo W T cs ds ls ps k s w (by omega) (by omega) (by omega) (by omega) (fun p hp => by have := a5 p hp; omega)
  cases hb : bookB W T cs ds ls ps with
  | true =>
    rw [hb] at this
    simp only [if_true] at this
    exact ⟨_, _, _, _, _, _, _, this, .inl (do_ok k s w hb)⟩
  | false =>
    rw [hb] at this
    exact ⟨_, _, _, _, _, _, _, this, .inr ⟨rfl, rfl, rfl, rfl⟩⟩

abbrev bkcs (i : Nat) (W T : Int) (cs : List Bool) (ds ls : List Int) (ps : List (List Int)) : List AV := [.v (.int .i64 W), .v (.int .i64 T), .ls 1 i 0 cs.length, .ls 1 (i + 1) 0 ds.length, .ls 1 (i + 2) 0 ls.length, .ls 1 (i + 3) 0 ps.length]
abbrev bookH (bs : List Int) (q : Nat) (W T : Int) (cs : List Bool) (ds ls : List Int) (ps : List (List Int)) : Heap :=
  [some (.box [.sl 0 1 (u8s bs), .v (.int .i64 q)]), some (.box [.v (.int .i64 0), .v (.int .i64 0), .os 1 [], .os 1 [], .os 1 [], .os 1 []]),
    some (.box (bkcs 3 W T cs ds ls ps)), some (.arr 1 (bools cs)), some (.arr 1 (ints ds)), some (.arr 1 (ints ls)), some (.arr 1 (oss ps))]
abbrev bookE (n : Int) (i : Int) : ES := [(0, .lp 0 0 0 0), (1, .v (.int .i64 n)), (4, .lp 0 1 0 0), (7, .lp 0 2 0 0), (8, .v (.int .i64 i)), (64, .lp 0 0 0 0)]

set_option maxHeartbeats 20000000 in
theorem book_L0 (bs : List Int) (p q : Nat) (n : Int) (m : Nat) (W T : Int) (cs : List Bool) (ds ls : List Int) (ps : List (List Int)) (hb : bs.length ≤ 2000) (hB : Byt bs) (hp : p < 2 ^ 34) (hm : m < 14) (hq : q ≤ p + 700) (hk : bookOk W T cs ds ls ps) (Qc : AExit → ES → Heap → Prop)
    (hend : ∀ (q2 : Nat) (W T : Int) (cs : List Bool) (ds ls : List Int) (ps : List (List Int)) (E : ES), q2 ≤ p + 850 → bookOk W T cs ds ls ps → get E 0 = .lp 0 0 0 0 → get E 1 = .v (.int .i64 n) → get E 4 = .lp 0 1 0 0 → get E 7 = .lp 0 2 0 0 → get E 64 = .lp 0 0 0 0 → Qc (.exit 0) E (bookH bs q2 W T cs ds ls ps)) :
    loopNode [] [0, 1, 4, 7, 8, 64] (awp Tryz.prog md8 c_spec_l20Book_L0) Qc (bookE n m) (bookH bs q W T cs ds ls ps) := by
  refine loop_by (fun b E H => ∃ (q2 : Nat) (W T : Int) (cs : List Bool) (ds ls : List Int) (ps : List (List Int)), b ≤ m ∧ q2 + b * 10 ≤ q + m * 10 ∧ bookOk W T cs ds ls ps ∧ E = bookE n b ∧ H = bookH bs q2 W T cs ds ls ps) m ⟨q, W, T, cs, ds, ls, ps, Nat.le_refl _, Nat.le_refl _, hk, rfl, rfl⟩ ?_
  rintro J hJ b E H ⟨q2, W, T, cs, ds, ls, ps, hbm, hq2, hk, rfl, rfl⟩
  by_cases h0 : b = 0
  · subst h0
    simp [c_spec_l20Book_L0]
    exact hend q2 W T cs ds ls ps _ (by omega) hk rfl rfl rfl rfl rfl
  obtain ⟨a1, a2, a3, a4, a5⟩ := bookOk_len hk
  have h0' : 0 < b := by omega
  have ded := s_spec_l20Deed bs q2 W T cs ds ls ps hb hB (by omega) (by omega) (by omega) (by omega)
  have nx : ∀ (q3 : Nat) (W2 T2 : Int) (cs2 : List Bool) (ds2 ls2 : List Int) (ps2 : List (List Int)), q3 ≤ q2 + 10 → bookOk W2 T2 cs2 ds2 ls2 ps2 → again J b (bookE n ((b : Int) - 1)) (bookH bs q3 W2 T2 cs2 ds2 ls2 ps2) := by
    intro q3 W2 T2 cs2 ds2 ls2 ps2 h1 h2
    refine ⟨b - 1, by omega, hJ _ _ _ ⟨q3, W2, T2, cs2, ds2, ls2, ps2, by omega, by omega, h2, ?_, rfl⟩⟩
    rw [show ((b - 1 : Nat) : Int) = (b : Int) - 1 by omega]
  simp [c_spec_l20Book_L0, h0']
  repeat' first
    | omega
    | apply And.intro
    | (refine call_onK ded [0] ?_ ?_ ?_ ?_
       · simp
       · simp
       · simp
       rintro _ _ ⟨k, s, w, q3, k0, k1, s0, s1, w0, w1, hq3, rfl, rfl⟩
       obtain ⟨d, W2, T2, cs2, ds2, l2, p2, hS, hk2⟩ := bdo W T cs ds ls ps k s w hk
       simp)
    | (refine call_on hS ?_
       cases d with
       | false =>
         simp
         exact ⟨by omega, nx q3 W T cs ds ls ps hq3 hk⟩
       | true =>
         simp
         exact ⟨by omega, nx q3 W2 T2 cs2 ds2 l2 p2 hq3 hk2⟩)
end Go.Proofs.Dev

namespace Go.Proofs.Dev
set_option linter.unusedSimpArgs false
set_option maxRecDepth 100000

end Go.Proofs.Dev

namespace Go.Proofs.Dev
set_option linter.unusedSimpArgs false
set_option maxRecDepth 100000

end Go.Proofs.Dev

namespace Go.Proofs.Dev

end Go.Proofs.Dev

namespace Go.Proofs.Dev
set_option linter.unusedSimpArgs false
set_option maxRecDepth 100000

end Go.Proofs.Dev

namespace Go.Proofs.Dev
set_option linter.unusedSimpArgs false

end Go.Proofs.Dev

namespace Go.Proofs.Dev
set_option linter.unusedSimpArgs false
set_option maxRecDepth 100000

theorem s_spec_l20Book (bs : List Int) (p : Nat) (n : Int) (hb : bs.length ≤ 2000) (hB : Byt bs) (hp : p < 2 ^ 33) (hn0 : 0 ≤ n) (hn : n < 2 ^ 20) :
    SoundSet Tryz.prog n_spec_l20Book [rdA bs p, .v (.int .i64 n)] (bookSet bs p 1000) := by
  refine fn_okS (md := md8) (ms := [true, false]) k_spec_l20Book (by simp) ?_
  simp [c_spec_l20Book]
  refine call_onK (s_spec_l20Puzzle bs p 0 hb hB (by omega) (by omega) (by omega)) [0] (by simp) (by simp) (by simp) ?_
  rintro _ _ ⟨W, T, cs, ds, q, rfl, hcs, hds, hq, rfl⟩
  simp [regA]
  refine call_on (s_spec_BookNew W T cs ds (by omega) (by omega)) ?_
  obtain ⟨W2, T2, cs2, ds2, ls2, e, hk⟩ := new_ok W T cs ds
  rw [e]
  simp
  refine call_onK (s_spec_l20Rd_pick bs q 14 hb hB (by omega)) [0] (by simp) (by simp) (by simp) ?_
  rintro _ _ ⟨x, x0, x1, rfl, rfl⟩
  obtain ⟨m, rfl⟩ : ∃ m : Nat, x = m := ⟨x.toNat, by omega⟩
  simp
  refine book_L0 bs p (q + 1) n m W2 T2 cs2 ds2 ls2 [] hb hB (by omega) (by omega) (by omega) hk _ ?_
  intro q2 W T cs ds ls ps E hq2 hk e0 e1 e4 e7 e64
  obtain ⟨a1, a2, a3, a4, a5⟩ := bookOk_len hk
  have t1 : (oss ps).take ps.length = oss ps := List.take_of_length_le (by simp [oss])
  have fin : ∀ (W T : Int) (cs : List Bool) (ds ls : List Int) (ps : List (List Int)) (q3 : Nat), cs.length ≤ 37 → ds.length ≤ 38 → ls.length ≤ 38 → ps.length ≤ 21 → (∀ x ∈ ps, x.length ≤ 37) → q3 ≤ q2 + 5 → bookSet bs p 1000 (bkO W T cs ds ls ps) [rdA bs q3, .bot] :=
    fun W T cs ds ls ps q3 h1 h2 h3 h4 h5 h6 => ⟨W, T, cs, ds, ls, ps, q3, h1, h2, h3, h4, h5, by omega, rfl, rfl⟩
  have a5' : ∀ x ∈ ps, x.length ≤ 37 := fun x hx => by have := a5 x hx; omega
  simp [e0, e1]
  refine call_onK (s_spec_l20Rd_odd bs q2 n hb hB (by omega) (by omega)) [0] (by simp) (by simp) (by simp) ?_
  rintro _ _ ⟨o, q3, rfl, hq3, rfl⟩
  cases o with
  | false =>
    simp [get_purgeE, e0, e4, e7, e64]
    refine ⟨_, _, fin W T cs ds ls ps q3 (by omega) (by omega) (by omega) (by omega) a5' (by omega), ?_⟩
    simp [get_purgeE, e0, e1, e4, e7, e64, t1]
  | true =>
    simp [get_purgeE, e0, e4, e7, e64]
    refine call_onK (s_spec_l20Rd_pick bs q3 4 hb hB (by omega)) [0] (by simp) (by simp) (by simp) ?_
    rintro _ _ ⟨y, y0, y1, rfl, rfl⟩
    by_cases c0 : y = 0
    · have ea : ints ls ++ [.v (.int .i64 0)] = ints (ls ++ [0]) := by simp [ints]
      have t2 : (ints (ls ++ [0])).take (ls.length + 1) = ints (ls ++ [0]) := List.take_of_length_le (by simp)
      simp [c0, get_purgeE, e0, e4, e7, e64, ea]
      refine ⟨by omega, _, _, fin W T cs ds (ls ++ [0]) ps (q3 + 1) (by omega) (by omega) (by simp; omega) (by omega) a5' (by omega), ?_⟩
      simp [get_purgeE, e0, e1, e4, e7, e64, t1, t2]
    by_cases c1 : y = 1
    · have ea : oss ps ++ [.os 1 [.v (.int .i64 9)]] = oss (ps ++ [[9]]) := by simp [oss, ints]
      have t2 : (oss (ps ++ [[9]])).take (ps.length + 1) = oss (ps ++ [[9]]) := List.take_of_length_le (by simp [oss])
      simp [c1, get_purgeE, e0, e4, e7, e64, ea]
      refine ⟨by omega, _, _, fin W T cs ds ls (ps ++ [[9]]) (q3 + 1) (by omega) (by omega) (by omega) (by simp; omega) (by intro x hx; simp at hx; rcases hx with h | rfl; exact a5' x h; simp) (by omega), ?_⟩
      simp [get_purgeE, e0, e1, e4, e7, e64, t2]
    by_cases c2 : y = 2
    · simp [c0, c1, c2, get_purgeE, e0, e4, e7, e64]
      refine ⟨_, _, fin 0 0 [] [] [] [] (q3 + 1) (by simp) (by simp) (by simp) (by simp) (by simp) (by omega), ?_⟩
      simp [get_purgeE, e0, e1, e4, e7, e64, oss]
    · have ea : ints ds ++ [.v (.int .i64 0)] = ints (ds ++ [0]) := by simp [ints]
      have t2 : (ints (ds ++ [0])).take (ds.length + 1) = ints (ds ++ [0]) := List.take_of_length_le (by simp)
      simp [c0, c1, c2, get_purgeE, e0, e4, e7, e64, ea]
      refine ⟨by omega, _, _, fin W T cs (ds ++ [0]) ls ps (q3 + 1) (by omega) (by simp; omega) (by omega) (by omega) a5' (by omega), ?_⟩
      simp [get_purgeE, e0, e1, e4, e7, e64, t1, t2]
end Go.Proofs.Dev

namespace Go.Proofs.Dev
set_option linter.unusedSimpArgs false
set_option maxRecDepth 100000

end Go.Proofs.Dev

namespace Go.Proofs.Dev
set_option linter.unusedSimpArgs false

/-! Made puzzles. -/
end Go.Proofs.Dev

namespace Go.Proofs.Dev
set_option linter.unusedSimpArgs false

end Go.Proofs.Dev

namespace Go.Proofs.Dev
set_option linter.unusedSimpArgs false
set_option maxRecDepth 100000

end Go.Proofs.Dev

namespace Go.Proofs.Dev
set_option linter.unusedSimpArgs false
set_option maxRecDepth 100000

end Go.Proofs.Dev

namespace Go.Proofs.Dev
set_option linter.unusedSimpArgs false
set_option maxRecDepth 100000

end Go.Proofs.Dev

namespace Go.Proofs.Dev
set_option linter.unusedSimpArgs false
set_option maxRecDepth 100000

theorem bdo2 (W T : Int) (cs : List Bool) (ds ls : List Int) (ps : List (List Int)) (k s w : Int) (hc : cs.length ≤ 40) (hd : ds.length ≤ 40) (hl : ls.length ≤ 40) (hb : ps.length ≤ 40) (hp : ∀ p ∈ ps, p.length ≤ 40) :
    ∃ (d : Bool) (W2 T2 : Int) (cs2 : List Bool) (ds2 ls2 : List Int) (ps2 : List (List Int)), SoundAt Tryz.prog n_spec_BookDo [bkA W T cs ds ls ps, deedV k s w] (.tup [bkO W2 T2 cs2 ds2 ls2 ps2, .v (.bool d)]) [.bot, .bot] ∧ (d = true → bookB W2 T2 cs2 ds2 ls2 ps2 = true) := by
  have := s_spec_BookDo W T cs ds ls ps k s w hc hd hl hb hp
  cases hv : bookB W T cs ds ls ps with
  | true =>
    rw [hv] at this
    simp only [if_true] at this
    exact ⟨_, _, _, _, _, _, _, this, fun _ => do_ok k s w hv⟩
  | false =>
    rw [hv] at this
    simp only [Bool.false_eq_true, if_false, Bool.false_and] at this
    exact ⟨false, _, _, _, _, _, _, this, fun h => by cases h⟩

def deedsSet (bs : List Int) (p d : Nat) (r : AV) (ups : List AV) : Prop := ∃ (xs : List Deed) (q : Nat), xs.length ≤ 12 ∧ (∀ x ∈ xs, x.2.1 ≤ 200) ∧ q ≤ p + d ∧ r = .os 3 (dsA xs) ∧ ups = [rdA bs q, .bot]

abbrev dsvH2 (bs : List Int) (q : Nat) (xs : List Deed) (W T : Int) (cs : List Bool) (ds ls : List Int) (ps : List (List Int)) : Heap :=
  [some (.box [.sl 0 1 (u8s bs), .v (.int .i64 q)]), some (.arr 3 (dsA xs)), some (.box [.v (.int .i64 W), .v (.int .i64 T), .sl 1 1 (bools cs), .sl 1 1 (ints ds), .sl 1 1 (ints ls), .sl 1 1 (sls 1 ps)])]
abbrev dsoH (bs : List Int) (q : Nat) (xs : List Deed) (W T : Int) (cs : List Bool) (ds ls : List Int) (ps : List (List Int)) : Heap :=
  [some (.box [.sl 0 1 (u8s bs), .v (.int .i64 q)]), some (.arr 3 (dsA xs)), some (.box (bkcs 3 W T cs ds ls ps)), some (.arr 1 (bools cs)), some (.arr 1 (ints ds)), some (.arr 1 (ints ls)), some (.arr 1 (oss ps))]
abbrev dsE (n : Nat) (i : Int) : ES := [(0, .lp 0 0 0 0), (5, .ls 3 1 0 n), (6, .lp 0 2 0 0), (7, .v (.int .i64 i)), (35, .lp 0 0 0 0)]

set_option maxHeartbeats 4000000 in
theorem s_spec_l20Deeds (bs : List Int) (p : Nat) (W T : Int) (cs : List Bool) (ds ls : List Int) (ps : List (List Int)) (hb : bs.length ≤ 2000) (hB : Byt bs) (hp : p < 2 ^ 34) (hc : cs.length ≤ 40) (hd : ds.length ≤ 40) (hl : ls.length ≤ 40) (hps : ps.length ≤ 40) (hpp : ∀ p ∈ ps, p.length ≤ 40) :
    SoundSet Tryz.prog n_spec_l20Deeds [rdA bs p, bkA W T cs ds ls ps] (deedsSet bs p 200) := by
  refine fn_okS (md := md8) (ms := [true, false]) k_spec_l20Deeds (by simp) ?_
  simp [c_spec_l20Deeds]
  refine call_onK (s_spec_l20Rd_pick bs p 12 hb hB (by omega)) [0] (by simp) (by simp) (by simp) ?_
  rintro _ _ ⟨x, x0, x1, rfl, rfl⟩
  obtain ⟨m, rfl⟩ : ∃ m : Nat, x = m := ⟨x.toNat, by omega⟩
  simp
  refine loop_by (fun b E H => ∃ (q : Nat) (xs : List Deed), b ≤ m ∧ q + b * 10 ≤ p + 1 + m * 10 ∧ xs.length + b = m ∧ (∀ x ∈ xs, x.2.1 ≤ 200) ∧ E = dsE xs.length b ∧
    (H = dsvH2 bs q xs W T cs ds ls ps ∨ ∃ (W2 T2 : Int) (cs2 : List Bool) (ds2 ls2 : List Int) (ps2 : List (List Int)), bookB W2 T2 cs2 ds2 ls2 ps2 = true ∧ H = dsoH bs q xs W2 T2 cs2 ds2 ls2 ps2)) m
    ⟨p + 1, [], Nat.le_refl _, Nat.le_refl _, by simp, by simp, by simp, .inl (by simp)⟩ ?_
  rintro J hJ b E H ⟨q, xs, hbm, hq, hxl, hxs, rfl, hH⟩
  have tk : (dsA xs).take xs.length = dsA xs := List.take_of_length_le (by simp)
  by_cases h0 : b = 0
  · subst h0
    rcases hH with rfl | ⟨W2, T2, cs2, ds2, ls2, ps2, _, rfl⟩ <;>
    · simp [c_spec_l20Deeds_L0]
      refine ⟨_, _, ⟨xs, q, by omega, hxs, by omega, rfl, rfl⟩, ?_⟩
      simp [tk]
  have h0' : 0 < b := by omega
  have eb : ((b - 1 : Nat) : Int) = (b : Int) - 1 := by omega
  have ap : ∀ d : Deed, dsA xs ++ [deedA d] = dsA (xs ++ [d]) := fun d => by simp [dsA]
  rcases hH with rfl | ⟨W2, T2, cs2, ds2, ls2, ps2, hv, rfl⟩
  · have ded := s_spec_l20Deed bs q W T cs ds ls ps hb hB (by omega) hc hd hl
    simp [c_spec_l20Deeds_L0, h0']
    refine call_onK ded [0] (by simp) (by simp) (by simp) ?_
    rintro _ _ ⟨k, s, w, q3, k0, k1, s0, s1, w0, w1, hq3, rfl, rfl⟩
    obtain ⟨d, W3, T3, cs3, ds3, l3, p3, hS, hk3⟩ := bdo2 W T cs ds ls ps k s w hc hd hl hps hpp
    have ap2 := ap (k, s, w)
    simp only [deedA] at ap2
    simp
    refine call_on hS ?_
    cases d with
    | false =>
      simp [ap2]
      exact ⟨by omega, by omega, b - 1, by omega, hJ _ _ _ ⟨q3, xs ++ [(k, s, w)], by omega, by omega, by simp; omega, by intro x hx; simp at hx; rcases hx with h | rfl; exact hxs x h; exact s1, by simp [eb], .inl rfl⟩⟩
    | true =>
      simp [ap2]
      exact ⟨by omega, by omega, b - 1, by omega, hJ _ _ _ ⟨q3, xs ++ [(k, s, w)], by omega, by omega, by simp; omega, by intro x hx; simp at hx; rcases hx with h | rfl; exact hxs x h; exact s1, by simp [eb], .inr ⟨W3, T3, cs3, ds3, l3, p3, hk3 rfl, rfl⟩⟩⟩
  · obtain ⟨hf, h20, hpf⟩ := book_parts hv
    have fl := fair_len hf
    have ded := s_spec_l20Deed bs q W2 T2 cs2 ds2 ls2 ps2 hb hB (by omega) (by omega) (by omega) (by omega)
    simp [c_spec_l20Deeds_L0, h0']
    refine call_onK ded [0] (by simp) (by simp) (by simp) ?_
    rintro _ _ ⟨k, s, w, q3, k0, k1, s0, s1, w0, w1, hq3, rfl, rfl⟩
    obtain ⟨d, W3, T3, cs3, ds3, l3, p3, hS, hk3⟩ := bdo2 W2 T2 cs2 ds2 ls2 ps2 k s w (by omega) (by omega) (by omega) (by omega) (fun p hp => by have := fair_len (hpf p hp); omega)
    have ap2 := ap (k, s, w)
    simp only [deedA] at ap2
    simp
    refine call_on hS ?_
    cases d with
    | false =>
      simp [ap2]
      exact ⟨by omega, by omega, b - 1, by omega, hJ _ _ _ ⟨q3, xs ++ [(k, s, w)], by omega, by omega, by simp; omega, by intro x hx; simp at hx; rcases hx with h | rfl; exact hxs x h; exact s1, by simp [eb], .inr ⟨W2, T2, cs2, ds2, ls2, ps2, hv, rfl⟩⟩⟩
    | true =>
      simp [ap2]
      exact ⟨by omega, by omega, b - 1, by omega, hJ _ _ _ ⟨q3, xs ++ [(k, s, w)], by omega, by omega, by simp; omega, by intro x hx; simp at hx; rcases hx with h | rfl; exact hxs x h; exact s1, by simp [eb], .inr ⟨W3, T3, cs3, ds3, l3, p3, hk3 rfl, rfl⟩⟩⟩

end Go.Proofs.Dev

namespace Go.Proofs.Dev
set_option maxRecDepth 100000

-- 2 parameters, results [.t 4], 26 slots, modes [false, false]
@[simp] abbrev n_laws_sameDeeds : Nat := 14
def c_laws_sameDeeds_L0 : ACode := .seq (.seq (.reg [.m 11 5, .m 12 0, .n 13 12, .o 14 (.bin .lss 0) [.t 11, .t 13]]) <| .cond (.t 14) ( .skip) ( .exit 0)) <|
 .seq (.block 1 ( .seq (.draw ( .take (.m 17 0) <| .take (.m 18 5) <| .take (.o 19 (.iadr 3) [.t 17, .t 18]) <| .take (.m 21 1) <| .take (.m 22 5) <|
 .take (.o 23 (.iadr 3) [.t 21, .t 22]) <| .alt (.la 20 3 19) ( .al (.la 24 3 23) ( .take (.o 25 (.bin .neq 6) [.t 20, .t 24]) <| .done)) <|
 .al (.la 24 3 23) ( .al (.la 20 3 19) ( .take (.o 25 (.bin .neq 6) [.t 20, .t 24]) <| .done)))) <| .cond (.t 25) ( .seq (.reg [.o 4 .mv [.kb false]]) <|
 .ret) ( .skip))) <| .reg [.m 15 5, .o 16 (.bin .add 0) [.t 15, .k 1], .m 5 16]

def c_laws_sameDeeds : ACode := .seq (.reg [.o 4 .mv [.kb false]]) <| .seq (.seq (.reg [.m 6 0, .n 7 6, .m 8 1, .n 9 8, .o 10 (.bin .neq 0) [.t 7, .t 9]]) <|
 .cond (.t 10) ( .seq (.reg [.o 4 .mv [.kb false]]) <| .ret) ( .skip)) <| .seq (.seq (.reg [.o 5 .mv [.k 0]]) <| .block 0 ( .loop [(0, 3), (1, 3)] [0, 1,
 5] c_laws_sameDeeds_L0)) <| .seq (.reg [.o 4 .mv [.kb true]]) <| .ret

theorem k_laws_sameDeeds : cFn Tryz.prog n_laws_sameDeeds 26 [.t 4] c_laws_sameDeeds := ⟨Tryz.f14, _, Tryz.func14, rfl, by kernel_rfl, by kernel_rfl, by kernel_rfl, by kernel_rfl⟩


end Go.Proofs.Dev
