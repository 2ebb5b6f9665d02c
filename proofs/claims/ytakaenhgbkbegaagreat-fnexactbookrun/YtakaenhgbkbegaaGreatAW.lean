/- Contracts of the functions of the program over slots and rows, each proved against the program itself; no condition beyond those that each theorem names. -/
import Derived.Test.YtakaenhgbkbegaaGreatAV
import Derived.Test.YtakaenhgbkbegaaGreatAN
import Derived.Test.YtakaenhgbkbegaaGreatAH
import Derived.Test.YtakaenhgbkbegaaGreatAM
import Derived.Test.YtakaenhgbkbegaaGreatAJ
import Derived.Test.YtakaenhgbkbegaaGreatAI
import Derived.Test.YtakaenhgbkbegaaGreatAS
import Derived.Test.YtakaenhgbkbegaaGreatProg
import Derived.Test.YtakaenhgbkbegaaGreatAU

set_option linter.unusedSimpArgs false
set_option linter.unusedVariables false

namespace Go.Proofs.Dev
set_option linter.unusedSimpArgs false
set_option maxRecDepth 100000

end Go.Proofs.Dev

namespace Go.Proofs.Dev
set_option linter.unusedSimpArgs false
set_option maxRecDepth 100000

end Go.Proofs.Dev

namespace Go.Proofs.Dev
set_option linter.unusedSimpArgs false
set_option maxRecDepth 100000

abbrev doF1 (W T : Int) (cs : List Bool) (ds : List Int) : List Int → List (List Int) → Deed → Bool × List Int × List (List Int) := fun l p d => doI W T cs ds l p d.1 d.2.1 d.2.2
def runI (W T : Int) (cs : List Bool) (ds ls : List Int) (ps : List (List Int)) (xs : List Deed) : List Int × List (List Int) × Nat := runRes (doF1 W T cs ds) ls ps xs
def runOk (W T : Int) (cs : List Bool) (ds ls : List Int) (ps : List (List Int)) (xs : List Deed) : Bool := bookB W T cs ds ls ps && decide (xs.length ≤ 40)

theorem s_impl_BookRunA (W T : Int) (cs : List Bool) (ds ls : List Int) (ps : List (List Int)) (xs : List Deed) (hc : cs.length ≤ 2 ^ 30) (hd : ds.length ≤ 2 ^ 30) (hl : ls.length ≤ 2 ^ 30) (hb : ps.length ≤ 2 ^ 30) (hp : ∀ p ∈ ps, p.length ≤ 2 ^ 30)
    (hx : xs.length < 2 ^ 40) (hs : ∀ d ∈ xs, d.2.1 ≤ 9223372036854775807) :
    SoundAt Tryz.prog n_impl_BookRun [bkA W T cs ds ls ps, .sl 1 3 (dsA xs)]
      (.tup [if runOk W T cs ds ls ps xs = true then bkO W T cs ds (runI W T cs ds ls ps xs).1 (runI W T cs ds ls ps xs).2.1 else bkO 0 0 [] [] [] [], .v (.int .i64 (if runOk W T cs ds ls ps xs = true then ((runI W T cs ds ls ps xs).2.2 : Int) else 0))]) [.bot, .bot] := by
  refine s_impl_BookRun k_impl_BookRun W T cs ds ls ps xs (bookB W T cs ds ls ps) hx (doF1 W T cs ds) (fun l p => bookB W T cs ds l p = true) (fun d => d.2.1 ≤ 9223372036854775807) hs
    (s_impl_BookValid W T cs ds ls ps (by omega) (by omega) (by omega) (by omega) (fun p h => by have := hp p h; omega)) ?_ (fun h => h) ?_ ?_
  · intro h
    obtain ⟨hf, h20, hpf⟩ := book_parts h
    obtain ⟨l36, ld, ll⟩ := fair_len hf
    exact s_impl_Book_copyOf W T cs ds ls ps (by omega) (by omega) (by omega) (by omega) (fun p hp => by have := fair_len (hpf p hp); omega)
  · intro l p d h
    exact do_ok _ _ _ h
  · intro l p d h hD
    exact s_impl_Book_do W T cs ds l p d.1 d.2.1 d.2.2 h hD

theorem s_spec_BookRunA (W T : Int) (cs : List Bool) (ds ls : List Int) (ps : List (List Int)) (xs : List Deed) (hc : cs.length ≤ 2 ^ 30) (hd : ds.length ≤ 2 ^ 30) (hl : ls.length ≤ 2 ^ 30) (hb : ps.length ≤ 2 ^ 30) (hp : ∀ p ∈ ps, p.length ≤ 2 ^ 30)
    (hx : xs.length < 2 ^ 40) :
    SoundAt Tryz.prog n_spec_BookRun [bkA W T cs ds ls ps, .sl 1 3 (dsA xs)]
      (.tup [if runOk W T cs ds ls ps xs = true then bkO W T cs ds (runI W T cs ds ls ps xs).1 (runI W T cs ds ls ps xs).2.1 else bkO 0 0 [] [] [] [], .v (.int .i64 (if runOk W T cs ds ls ps xs = true then ((runI W T cs ds ls ps xs).2.2 : Int) else 0))]) [.bot, .bot] := by
  refine s_spec_BookRun k_spec_BookRun W T cs ds ls ps xs (bookB W T cs ds ls ps) hx (doF1 W T cs ds) (fun l p => bookB W T cs ds l p = true)
    (s_spec_BookValid W T cs ds ls ps (by omega) (by omega) (by omega) (by omega) (fun p h => by have := hp p h; omega)) ?_ (fun h => h) ?_ ?_ ?_
  · intro h
    obtain ⟨hf, h20, hpf⟩ := book_parts h
    obtain ⟨hr, hdg, hy, ho⟩ := fair_parts hf
    obtain ⟨l36, ld, ll⟩ := fair_len hf
    have hnew := s_spec_BookNew W T cs ds (by omega) (by omega)
    have enew : newB W T cs ds = bkO W T cs ds (noneL cs) [] := by simp [newB, hr, hdg]
    rw [enew] at hnew
    exact s_spec_l10Copy k_spec_l10Copy W T cs ds ls (noneL cs) ps (by omega) (by omega) (by omega) (by omega) (fun p hp => by have := fair_len (hpf p hp); omega) (by simp [noneL]; omega) hnew
  · intro l p d h
    exact do_ok _ _ _ h
  · intro l p d h h0
    show (doI W T cs ds l p d.1 d.2.1 d.2.2).2 = (l, p)
    rw [doI_false h0]
  · intro l p d h
    obtain ⟨hf, h20, hpf⟩ := book_parts h
    have fl := fair_len hf
    have := s_spec_BookDo W T cs ds l p d.1 d.2.1 d.2.2 (by omega) (by omega) (by omega) (by omega) (fun q hq => by have := fair_len (hpf q hq); omega)
    rw [h] at this
    simpa [deedA, doF1] using this

theorem runRes_append (f : List Int → List (List Int) → Deed → Bool × List Int × List (List Int)) : ∀ (xs ys : List Deed) (ls : List Int) (ps : List (List Int)),
    runRes f ls ps (xs ++ ys) = ((runRes f (runRes f ls ps xs).1 (runRes f ls ps xs).2.1 ys).1, (runRes f (runRes f ls ps xs).1 (runRes f ls ps xs).2.1 ys).2.1, (runRes f ls ps xs).2.2 + (runRes f (runRes f ls ps xs).1 (runRes f ls ps xs).2.1 ys).2.2)
  | [], ys, ls, ps => by simp [runRes]
  | x :: xs, ys, ls, ps => by
    rw [List.cons_append, runRes, runRes]
    simp only [runRes_append f xs ys]
    simp only [Prod.mk.injEq, true_and]
    omega

theorem run_ok {W T : Int} {cs : List Bool} {ds : List Int} : ∀ (xs : List Deed) (ls : List Int) (ps : List (List Int)), bookB W T cs ds ls ps = true → bookB W T cs ds (runI W T cs ds ls ps xs).1 (runI W T cs ds ls ps xs).2.1 = true
  | [], ls, ps, h => h
  | x :: xs, ls, ps, h => by
    have := run_ok xs _ _ (do_ok x.1 x.2.1 x.2.2 h)
    exact this
theorem run_le (f : List Int → List (List Int) → Deed → Bool × List Int × List (List Int)) : ∀ (xs : List Deed) (ls : List Int) (ps : List (List Int)), (runRes f ls ps xs).2.2 ≤ xs.length
  | [], ls, ps => by simp [runRes]
  | x :: xs, ls, ps => by
    have := run_le f xs (f ls ps x).2.1 (f ls ps x).2.2
    simp only [runRes, List.length_cons]
    split <;> omega

/-- Two parts, one after the other. -/
theorem run_half (W T : Int) (cs : List Bool) (ds ls : List Int) (ps : List (List Int)) (xs : List Deed) (n : Nat) :
    runI W T cs ds (runI W T cs ds ls ps (xs.take n)).1 (runI W T cs ds ls ps (xs.take n)).2.1 (xs.drop n) =
      ((runI W T cs ds ls ps xs).1, (runI W T cs ds ls ps xs).2.1, (runI W T cs ds ls ps xs).2.2 - (runI W T cs ds ls ps (xs.take n)).2.2) ∧
    (runI W T cs ds ls ps (xs.take n)).2.2 ≤ (runI W T cs ds ls ps xs).2.2 := by
  have h := runRes_append (doF1 W T cs ds) (xs.take n) (xs.drop n) ls ps
  rw [List.take_append_drop] at h
  unfold runI
  rw [h]
  refine ⟨?_, by simp only; omega⟩
  simp only
  rw [Nat.add_sub_cancel_left]

/-- Taken back as often as there is a past, there is none. -/
theorem run_back {W T : Int} {cs : List Bool} {ds : List Int} : ∀ (n : Nat) (ls : List Int) (ps : List (List Int)), ps.length = n → ∃ l, runI W T cs ds ls ps (List.replicate n (4, 0, 0)) = (l, [], n)
  | 0, ls, ps, h => by
    obtain rfl : ps = [] := List.eq_nil_of_length_eq_zero h
    exact ⟨ls, rfl⟩
  | n + 1, ls, ps, h => by
    rcases List.eq_nil_or_concat ps with rfl | ⟨qs, q, hq⟩
    · simp at h
    · rw [List.concat_eq_append] at hq
      subst hq
      obtain ⟨l, hl⟩ := run_back (W := W) (T := T) (cs := cs) (ds := ds) n q qs (by simpa using h)
      refine ⟨l, ?_⟩
      have e : doI W T cs ds ls (qs ++ [q]) 4 0 0 = (true, q, qs) := by unfold doI; rw [show needB (4, 0, 0) = true from rfl, doRes_back]
      have e2 : doF1 W T cs ds ls (qs ++ [q]) (4, 0, 0) = (true, q, qs) := e
      unfold runI at hl ⊢
      rw [List.replicate_succ, runRes]
      simp only [e2, hl]
      rfl
end Go.Proofs.Dev

namespace Go.Proofs.Dev
set_option linter.unusedSimpArgs false
set_option maxRecDepth 100000

theorem bdo2 (W T : Int) (cs : List Bool) (ds ls : List Int) (ps : List (List Int)) (k s w : Int) (hc : cs.length ≤ 40) (hd : ds.length ≤ 40) (hl : ls.length ≤ 40) (hb : ps.length ≤ 40) (hp : ∀ p ∈ ps, p.length ≤ 40) :
    ∃ (d : Bool) (W2 T2 : Int) (cs2 : List Bool) (ds2 ls2 : List Int) (ps2 : List (List Int)), SoundAt Tryz.prog n_spec_BookDo [bkA W T cs ds ls ps, deedV k s w] (.tup [bkO W2 T2 cs2 ds2 ls2 ps2, .v (.bool d)]) [.bot, .bot] ∧ (d = true → bookB W2 T2 cs2 ds2 ls2 ps2 = true) := by
  have := s_spec_BookDo W T cs ds ls ps k s w hc hd hl hb hp
  cases hv : bookB W T cs ds ls ps with
  | true =>
    rw [hv] at this
    simp only [if_true] at this
    exact ⟨_, _, _, _, _, _, _, this, fun _ => do_ok k s w hv⟩
  | false =>
    rw [hv] at this
    simp only [Bool.false_eq_true, if_false, Bool.false_and] at this
    exact ⟨false, _, _, _, _, _, _, this, fun h => by cases h⟩

def deedsSet (bs : List Int) (p d : Nat) (r : AV) (ups : List AV) : Prop := ∃ (xs : List Deed) (q : Nat), xs.length ≤ 12 ∧ (∀ x ∈ xs, x.2.1 ≤ 200) ∧ q ≤ p + d ∧ r = .os 3 (dsA xs) ∧ ups = [rdA bs q, .bot]

abbrev dsvH2 (bs : List Int) (q : Nat) (xs : List Deed) (W T : Int) (cs : List Bool) (ds ls : List Int) (ps : List (List Int)) : Heap :=
  [some (.box [.sl 0 1 (u8s bs), .v (.int .i64 q)]), some (.arr 3 (dsA xs)), some (.box [.v (.int .i64 W), .v (.int .i64 T), .sl 1 1 (bools cs), .sl 1 1 (ints ds), .sl 1 1 (ints ls), .sl 1 1 (sls 1 ps)])]
abbrev dsoH (bs : List Int) (q : Nat) (xs : List Deed) (W T : Int) (cs : List Bool) (ds ls : List Int) (ps : List (List Int)) : Heap :=
  [some (.box [.sl 0 1 (u8s bs), .v (.int .i64 q)]), some (.arr 3 (dsA xs)), some (.box (bkcs 3 W T cs ds ls ps)), some (.arr 1 (bools cs)), some (.arr 1 (ints ds)), some (.arr 1 (ints ls)), some (.arr 1 (oss ps))]
abbrev dsE (n : Nat) (i : Int) : ES := [(0, .lp 0 0 0 0), (5, .ls 3 1 0 n), (6, .lp 0 2 0 0), (7, .v (.int .i64 i)), (35, .lp 0 0 0 0)]

set_option maxHeartbeats 4000000 in
theorem s_spec_l20Deeds (bs : List Int) (p : Nat) (W T : Int) (cs : List Bool) (ds ls : List Int) (ps : List (List Int)) (hb : bs.length ≤ 2000) (hB : Byt bs) (hp : p < 2 ^ 34) (hc : cs.length ≤ 40) (hd : ds.length ≤ 40) (hl : ls.length ≤ 40) (hps : ps.length ≤ 40) (hpp : ∀ p ∈ ps, p.length ≤ 40) :
    SoundSet Tryz.prog n_spec_l20Deeds [rdA bs p, bkA W T cs ds ls ps] (deedsSet bs p 200) := by
  refine fn_okS (md := md8) (ms := [true, false]) k_spec_l20Deeds (by simp) ?_
  simp [c_spec_l20Deeds]
  refine call_onK (s_spec_l20Rd_pick bs p 12 hb hB (by omega)) [0] (by simp) (by simp) (by simp) ?_
  rintro _ _ ⟨x, x0, x1, rfl, rfl⟩
  obtain ⟨m, rfl⟩ : ∃ m : Nat, x = m := ⟨x.toNat, by omega⟩
  simp
  refine loop_by (fun b E H => ∃ (q : Nat) (xs : List Deed), b ≤ m ∧ q + b * 10 ≤ p + 1 + m * 10 ∧ xs.length + b = m ∧ (∀ x ∈ xs, x.2.1 ≤ 200) ∧ E = dsE xs.length b ∧
    (H = dsvH2 bs q xs W T cs ds ls ps ∨ ∃ (W2 T2 : Int) (cs2 : List Bool) (ds2 ls2 : List Int) (ps2 : List (List Int)), bookB W2 T2 cs2 ds2 ls2 ps2 = true ∧ H = dsoH bs q xs W2 T2 cs2 ds2 ls2 ps2)) m
    ⟨p + 1, [], Nat.le_refl _, Nat.le_refl _, by simp, by simp, by simp, .inl (by simp)⟩ ?_
  rintro J hJ b E H ⟨q, xs, hbm, hq, hxl, hxs, rfl, hH⟩
  have tk : (dsA xs).take xs.length = dsA xs := List.take_of_length_le (by simp)
  by_cases h0 : b = 0
  · subst h0
    rcases hH with rfl | ⟨W2, T2, cs2, ds2, ls2, ps2, _, rfl⟩ <;>
    · simp [c_spec_l20Deeds_L0]
      refine ⟨_, _, ⟨xs, q, by omega, hxs, by omega, rfl, rfl⟩, ?_⟩
      simp [tk]
  have h0' : 0 < b := by omega
  have eb : ((b - 1 : Nat) : Int) = (b : Int) - 1 := by omega
  have ap : ∀ d : Deed, dsA xs ++ [deedA d] = dsA (xs ++ [d]) := fun d => by simp [dsA]
  rcases hH with rfl | ⟨W2, T2, cs2, ds2, ls2, ps2, hv, rfl⟩
  · have ded := s_spec_l20Deed bs q W T cs ds ls ps hb hB (by omega) hc hd hl
    simp [c_spec_l20Deeds_L0, h0']
    refine call_onK ded [0] (by simp) (by simp) (by simp) ?_
    rintro _ _ ⟨k, s, w, q3, k0, k1, s0, s1, w0, w1, hq3, rfl, rfl⟩
    obtain ⟨d, W3, T3, cs3, ds3, l3, p3, hS, hk3⟩ := bdo2 W T cs ds ls ps k s w hc hd hl hps hpp
    have ap2 := ap (k, s, w)
    simp only [deedA] at ap2
    simp
    refine call_on hS ?_
    cases d with
    | false =>
      simp [ap2]
      exact ⟨by omega, by omega, b - 1, by omega, hJ _ _ _ ⟨q3, xs ++ [(k, s, w)], by omega, by omega, by simp; omega, by intro x hx; simp at hx; rcases hx with h | rfl; exact hxs x h; exact s1, by simp [eb], .inl rfl⟩⟩
    | true =>
      simp [ap2]
      exact ⟨by omega, by omega, b - 1, by omega, hJ _ _ _ ⟨q3, xs ++ [(k, s, w)], by omega, by omega, by simp; omega, by intro x hx; simp at hx; rcases hx with h | rfl; exact hxs x h; exact s1, by simp [eb], .inr ⟨W3, T3, cs3, ds3, l3, p3, hk3 rfl, rfl⟩⟩⟩
  · obtain ⟨hf, h20, hpf⟩ := book_parts hv
    have fl := fair_len hf
    have ded := s_spec_l20Deed bs q W2 T2 cs2 ds2 ls2 ps2 hb hB (by omega) (by omega) (by omega) (by omega)
    simp [c_spec_l20Deeds_L0, h0']
    refine call_onK ded [0] (by simp) (by simp) (by simp) ?_
    rintro _ _ ⟨k, s, w, q3, k0, k1, s0, s1, w0, w1, hq3, rfl, rfl⟩
    obtain ⟨d, W3, T3, cs3, ds3, l3, p3, hS, hk3⟩ := bdo2 W2 T2 cs2 ds2 ls2 ps2 k s w (by omega) (by omega) (by omega) (by omega) (fun p hp => by have := fair_len (hpf p hp); omega)
    have ap2 := ap (k, s, w)
    simp only [deedA] at ap2
    simp
    refine call_on hS ?_
    cases d with
    | false =>
      simp [ap2]
      exact ⟨by omega, by omega, b - 1, by omega, hJ _ _ _ ⟨q3, xs ++ [(k, s, w)], by omega, by omega, by simp; omega, by intro x hx; simp at hx; rcases hx with h | rfl; exact hxs x h; exact s1, by simp [eb], .inr ⟨W2, T2, cs2, ds2, ls2, ps2, hv, rfl⟩⟩⟩
    | true =>
      simp [ap2]
      exact ⟨by omega, by omega, b - 1, by omega, hJ _ _ _ ⟨q3, xs ++ [(k, s, w)], by omega, by omega, by simp; omega, by intro x hx; simp at hx; rcases hx with h | rfl; exact hxs x h; exact s1, by simp [eb], .inr ⟨W3, T3, cs3, ds3, l3, p3, hk3 rfl, rfl⟩⟩⟩

def drawBR (r : AV) (ups : List AV) : Prop := ∃ (W T : Int) (cs : List Bool) (ds ls : List Int) (ps : List (List Int)) (xs : List Deed), cs.length ≤ 37 ∧ ds.length ≤ 38 ∧ ls.length ≤ 38 ∧ ps.length ≤ 21 ∧ (∀ x ∈ ps, x.length ≤ 37) ∧ xs.length ≤ 41 ∧ (∀ x ∈ xs, x.2.1 ≤ 200) ∧
  r = .tup [bkO W T cs ds ls ps, .os 3 (dsA xs)] ∧ ups = [.bot]

theorem s_spec_DrawBookRun (bs : List Int) (hb : bs.length ≤ 2 ^ 60) (hB : Byt bs) : SoundSet Tryz.prog n_spec_DrawBookRun [.sl 0 1 (u8s bs)] drawBR := by
  refine fn_okS (md := md8) (ms := [false]) k_spec_DrawBookRun (by simp) ?_
  simp [c_spec_DrawBookRun]
  refine call_on (s_spec_l20Open bs hb) ?_
  simp
  refine call_onK (s_spec_l20Book (bs.take 2000) 0 12 (by simp; omega) (byt_take hB 2000) (by omega) (by omega) (by omega)) [1] (by simp) (by simp) (by simp) ?_
  rintro _ _ ⟨W, T, cs, ds, ls, ps, q, h1, h2, h3, h4, h5, hq, rfl, rfl⟩
  have t1 : (oss ps).take ps.length = oss ps := List.take_of_length_le (by simp [oss])
  simp
  refine call_onK (s_spec_l20Rd_odd (bs.take 2000) q 30 (by simp; omega) (byt_take hB 2000) (by omega) (by omega)) [1] (by simp) (by simp) (by simp) ?_
  rintro _ _ ⟨o, q2, rfl, hq2, rfl⟩
  cases o with
  | true =>
    obtain ⟨ys, hy⟩ : ∃ ys : List Deed, ys = List.replicate 41 (0, 0, 0) := ⟨_, rfl⟩
    have er : List.replicate 41 (AV.agg [.v (.int .i64 0), .v (.int .i64 0), .v (.int .i64 0)]) = dsA ys := by rw [hy]; simp [dsA, deedA]
    have yl : ys.length = 41 := by rw [hy]; rfl
    have tk : (dsA ys).take 41 = dsA ys := List.take_of_length_le (by simp [yl])
    have y2 : ∀ x ∈ ys, x.2.1 ≤ 200 := by intro x hx; rw [hy] at hx; obtain rfl := List.eq_of_mem_replicate hx; decide
    clear hy
    simp [er]
    (repeat' first | omega | apply And.intro) <;>
    · refine ⟨_, _, ⟨W, T, cs, ds, ls, ps, ys, h1, h2, h3, h4, h5, by omega, y2, rfl, rfl⟩, ?_⟩
      simp [t1, tk, yl]
  | false =>
    have ded := s_spec_l20Deeds (bs.take 2000) q2 W T cs ds ls ps (by simp; omega) (byt_take hB 2000) (by omega) (by omega) (by omega) (by omega) (by omega) (fun p hp => by have := h5 p hp; omega)
    simp [c_spec_DrawBookRun_T0]
    (repeat' first | omega | apply And.intro) <;>
    · refine call_onK ded [1] (by simp) (by simp) (by simp) ?_
      rintro _ _ ⟨xs, q3, x1, x2, _, rfl, rfl⟩
      have tk : (dsA xs).take xs.length = dsA xs := List.take_of_length_le (by simp)
      simp
      refine ⟨_, _, ⟨W, T, cs, ds, ls, ps, xs, h1, h2, h3, h4, h5, by omega, x2, rfl, rfl⟩, ?_⟩
      simp [t1, tk]
end Go.Proofs.Dev

namespace Go.Proofs.Dev
set_option linter.unusedSimpArgs false
set_option maxRecDepth 100000

abbrev bkr (cs : List Bool) (ds ls : List Int) (ps : List (List Int)) : Heap := [some (.arr 1 (bools cs)), some (.arr 1 (ints ds)), some (.arr 1 (ints ls)), some (.arr 1 (oss ps))]
abbrev brF := Fin [RV.t 2] 143 1 [false] (.v (.bool true)) [.bot]

theorem vwL_ds4 (xs : List (Int × Int × Int)) : vwL 1 (dsA xs) = dsA xs := by
  induction xs with
  | nil => rfl
  | cons x xs ih =>
    show vwL 1 (deedA x :: dsA xs) = deedA x :: dsA xs
    simp only [vwL, ih, deedA, vw]

theorem br_T1 (W T : Int) (cs : List Bool) (ds ls l1 : List Int) (ps p1 : List (List Int)) (n p q : Nat) (hcs : cs.length ≤ 37) (hds : ds.length ≤ 38) (hls : ls.length ≤ 38) (hps : ps.length ≤ 21) (hv : bookB W T cs ds l1 p1 = true) (hn : n = p + q) (hn2 : n ≤ 41) :
    awp Tryz.prog md8 c_laws_FnBookRun_T1 brF [(3, .lp 0 0 0 0), (5, .lp 0 1 0 0), (6, .v (.int .i64 n)), (11, .v (.int .i64 p)), (12, .lp 0 2 0 0), (13, .v (.int .i64 q))]
      ([some (.box (bkcs 3 W T cs ds ls ps)), some (.box (bkcs 7 W T cs ds l1 p1)), some (.box (bkcs 11 W T cs ds l1 p1))] ++ (bkr cs ds ls ps ++ (bkr cs ds l1 p1 ++ bkr cs ds l1 p1))) := by
  obtain ⟨hf, h20, hpf⟩ := book_parts hv
  have fl := fair_len hf
  have hp1 : ∀ x ∈ p1, x.length < 2 ^ 40 := fun x hx => by have := fair_len (hpf x hx); omega
  have hp130 : ∀ x ∈ p1, x.length ≤ 2 ^ 30 := fun x hx => by have := fair_len (hpf x hx); omega
  have va := s_impl_BookValid W T cs ds l1 p1 (by omega) (by omega) (by omega) (by omega) hp1
  rw [hv] at va
  have same := s_laws_sameBook W T cs ds l1 p1 W T cs ds l1 p1 (by omega) (by omega) (by omega) (by omega) hp1
  rw [sameK_self] at same
  have rg := s_laws_sameRegion W T cs W T cs (by omega)
  rw [sameR_self] at rg
  have fa := s_impl_FairOk W T cs ds l1 (by omega) (by omega) (by omega)
  rw [hf] at fa
  obtain ⟨l0, hrun⟩ := run_back (W := W) (T := T) (cs := cs) (ds := ds) p1.length l1 p1 rfl
  have rn := s_impl_BookRunA W T cs ds l1 p1 (List.replicate p1.length (4, 0, 0)) (by omega) (by omega) (by omega) (by omega) hp130 (by simp; omega) (by intro x hx; obtain rfl := List.eq_of_mem_replicate hx; decide)
  have hok : runOk W T cs ds l1 p1 (List.replicate p1.length (4, 0, 0)) = true := by simp [runOk, hv]; omega
  rw [hok, hrun] at rn
  simp only [if_true] at rn
  have hl0 : l0.length ≤ 40 := by
    have := run_ok (List.replicate p1.length (4, 0, 0)) l1 p1 hv
    rw [hrun] at this
    obtain ⟨a1, _, a3⟩ := fair_len (book_parts this).1
    have a4 : l0.length = cs.length := a3
    omega
  have ap : ∀ i : Nat, dsA (List.replicate i (4, 0, 0)) ++ [AV.agg [.v (.int .i64 4), .v (.int .i64 0), .v (.int .i64 0)]] = dsA (List.replicate (i + 1) (4, 0, 0)) := by
    intro i
    rw [List.replicate_succ']
    simp [dsA, deedA]
  simp [c_laws_FnBookRun_T1]
  refine loop_by (fun m E H => ∃ i : Nat, m = p1.length - i ∧ i ≤ p1.length ∧
    E = [(3, .lp 0 0 0 0), (5, .lp 0 1 0 0), (6, .v (.int .i64 n)), (11, .v (.int .i64 p)), (12, .lp 0 2 0 0), (13, .v (.int .i64 q)), (14, .ls 3 3 0 i), (15, .v (.int .i64 i))] ∧
    H = [some (.box (bkcs 4 W T cs ds ls ps)), some (.box (bkcs 8 W T cs ds l1 p1)), some (.box (bkcs 12 W T cs ds l1 p1)), some (.arr 3 (dsA (List.replicate i (4, 0, 0))))] ++ (bkr cs ds ls ps ++ (bkr cs ds l1 p1 ++ bkr cs ds l1 p1)))
    p1.length ⟨0, rfl, by omega, by simp, by simp⟩ ?_
  rintro J hJ m E H ⟨i, rfl, hi, rfl, rfl⟩
  by_cases h : i < p1.length
  · have ap2 := ap i
    simp [c_laws_FnBookRun_L0, h, ap2]
    exact ⟨by omega, by omega, _, by omega, hJ _ _ _ ⟨i + 1, rfl, h, by simp, by simp⟩⟩
  · have : i = p1.length := by omega
    subst this
    have tk : (dsA (List.replicate p1.length (4, 0, 0))).take p1.length = dsA (List.replicate p1.length (4, 0, 0)) := List.take_of_length_le (by simp)
    simp [c_laws_FnBookRun_L0, tk]
    refine call_on rn ?_
    simp [tk]
    refine ⟨vwL_ds4 _, ?_⟩
    refine call_on va ?_
    simp
    refine call_on same ?_
    have e : (p : Int) + q = n := by omega
    simp [e]
    refine ⟨by omega, ?_⟩
    refine call_on rg ?_
    simp
    refine call_on fa ?_
    simp

theorem br_T2 (W T : Int) (cs : List Bool) (ds ls l1 la : List Int) (ps p1 pa : List (List Int)) (xs : List Deed) (h n p : Nat) (hcs : cs.length ≤ 37) (hds : ds.length ≤ 38) (hls : ls.length ≤ 38) (hps : ps.length ≤ 21) (hv : bookB W T cs ds l1 p1 = true) (hva : bookB W T cs ds la pa = true)
    (hx : xs.length ≤ 40) (hx2 : ∀ d ∈ xs, d.2.1 ≤ 200) (hh : h ≤ xs.length) (hpn : p ≤ n) (hn2 : n ≤ 41) (hrun : runI W T cs ds la pa (xs.drop h) = (l1, p1, n - p)) :
    awp Tryz.prog md8 c_laws_FnBookRun_T2 brF [(3, .lp 0 0 0 0), (4, .ls 3 1 0 xs.length), (5, .lp 0 2 0 0), (6, .v (.int .i64 n)), (9, .v (.int .i64 h)), (10, .lp 0 3 0 0), (11, .v (.int .i64 p))]
      ([some (.box (bkcs 4 W T cs ds ls ps)), some (.arr 3 (dsA xs)), some (.box (bkcs 8 W T cs ds l1 p1)), some (.box (bkcs 12 W T cs ds la pa))] ++ (bkr cs ds ls ps ++ (bkr cs ds l1 p1 ++ bkr cs ds la pa))) := by
  obtain ⟨hf, h20, hpf⟩ := book_parts hva
  have fl := fair_len hf
  have hpa30 : ∀ x ∈ pa, x.length ≤ 2 ^ 30 := fun x hx => by have := fair_len (hpf x hx); omega
  have rn := s_impl_BookRunA W T cs ds la pa (xs.drop h) (by omega) (by omega) (by omega) (by omega) hpa30 (by simp; omega) (fun d hd => by have := hx2 d (List.mem_of_mem_drop hd); omega)
  have hok : runOk W T cs ds la pa (xs.drop h) = true := by simp [runOk, hva]; omega
  rw [hok, hrun] at rn
  simp only [if_true] at rn
  have dt : ((dsA xs).drop h).take (xs.length - h) = dsA (xs.drop h) := by
    rw [List.take_of_length_le (by simp)]; simp [dsA]
  have fin := br_T1 W T cs ds ls l1 ps p1 n p (n - p) hcs hds hls hps hv (by omega) hn2
  have ec : ((n - p : Nat) : Int) = (n : Int) - p := by omega
  simp only [bkcs, bkr, List.cons_append, List.nil_append, List.append_assoc] at fin
  have dt2 : vwL 1 (((dsA xs).drop h).take (xs.length - h)) = dsA (xs.drop h) := by rw [dt]; exact vwL_ds4 _
  have hsum : h + (xs.length - h) ≤ xs.length := by omega
  simp [c_laws_FnBookRun_T2, dt, hh]
  (repeat' first | omega | apply And.intro) <;>
  · refine call_on rn ?_
    simp [hsum, dt2]
    exact fin

set_option maxHeartbeats 4000000 in
theorem l_FnBookRun (bs : List Int) (hB : Byt bs) : SoundAt Tryz.prog n_laws_FnBookRun [.sl 0 1 (u8s bs)] (.v (.bool true)) [.bot] := by
  refine fn_ok (md := md8) (ms := [false]) k_laws_FnBookRun (by simp) ?_
  simp [c_laws_FnBookRun]
  refine fun hsz => ?_
  have hb : bs.length ≤ 2 ^ 60 := by omega
  refine call_onK (s_spec_DrawBookRun bs hb hB) [] (by simp) (by simp) (by simp) ?_
  rintro _ _ ⟨W, T, cs, ds, ls, ps, xs, h1, h2, h3, h4, h5, hx, hx2, rfl, rfl⟩
  have hp : ∀ p ∈ ps, p.length < 2 ^ 40 := fun p hp => by have := h5 p hp; omega
  have hp30 : ∀ p ∈ ps, p.length ≤ 2 ^ 30 := fun p hp => by have := h5 p hp; omega
  have hs63 : ∀ d ∈ xs, d.2.1 ≤ 9223372036854775807 := fun d hd => by have := hx2 d hd; omega
  have one := s_impl_BookRunA W T cs ds ls ps xs (by omega) (by omega) (by omega) (by omega) hp30 (by omega) hs63
  have two := s_spec_BookRunA W T cs ds ls ps xs (by omega) (by omega) (by omega) (by omega) hp30 (by omega)
  have va := s_spec_BookValid W T cs ds ls ps (by omega) (by omega) (by omega) (by omega) hp
  have tk : (dsA xs).take xs.length = dsA xs := List.take_of_length_le (by simp)
  have vx := vwL_ds4 xs
  cases hr : runOk W T cs ds ls ps xs with
  | false =>
    rw [hr] at one two
    simp only [Bool.false_eq_true, if_false] at one two
    have same := s_laws_sameBook 0 0 [] [] [] [] 0 0 [] [] [] [] (by simp) (by simp) (by simp) (by simp) (by simp)
    have no := s_laws_noBook 0 0 [] [] [] [] (by simp) (by simp) (by simp) (by simp) (by simp)
    rw [sameK_self] at same no
    simp [tk, vx]
    refine call_on one ?_
    simp [tk, vx]
    refine call_on two ?_
    simp [tk, vx]
    refine call_on same ?_
    simp
    refine call_on va ?_
    cases hv : bookB W T cs ds ls ps with
    | false =>
      simp
      refine call_on no ?_
      simp
      refine call_on s_laws_alive ?_
      simp
    | true =>
      have h40 : (40 : Int) < xs.length := by simp [runOk, hv] at hr; omega
      simp [h40]
      refine call_on no ?_
      simp
      refine call_on s_laws_alive ?_
      simp
  | true =>
    have hr2 := hr
    simp only [runOk, Bool.and_eq_true, decide_eq_true_eq] at hr2
    obtain ⟨hv, h40⟩ := hr2
    rw [hr] at one two
    rw [hv] at va
    simp only [if_true] at one two
    obtain ⟨hh1, hh2⟩ := run_half W T cs ds ls ps xs (xs.length / 2)
    have hvx := run_ok xs ls ps hv
    have hva := run_ok (xs.take (xs.length / 2)) ls ps hv
    have hnl := run_le (doF1 W T cs ds) xs ls ps
    change (runI W T cs ds ls ps xs).2.2 ≤ _ at hnl
    have rn := s_impl_BookRunA W T cs ds ls ps (xs.take (xs.length / 2)) (by omega) (by omega) (by omega) (by omega) hp30 (by simp; omega) (fun d hd => hs63 d (List.mem_of_mem_take hd))
    have hok : runOk W T cs ds ls ps (xs.take (xs.length / 2)) = true := by simp [runOk, hv]; omega
    rw [hok] at rn
    simp only [if_true] at rn
    generalize runI W T cs ds ls ps xs = rx at *
    generalize runI W T cs ds ls ps (xs.take (xs.length / 2)) = ra at *
    obtain ⟨l1, p1, n⟩ := rx
    obtain ⟨la, pa, p⟩ := ra
    simp only at one two hh1 hh2 hvx hva rn hnl
    obtain ⟨hfx, h20x, hpfx⟩ := book_parts hvx
    have flx := fair_len hfx
    have same := s_laws_sameBook W T cs ds l1 p1 W T cs ds l1 p1 (by omega) (by omega) (by omega) (by omega) (fun x hx => by have := fair_len (hpfx x hx); omega)
    rw [sameK_self] at same
    have fin := br_T2 W T cs ds ls l1 la ps p1 pa xs (xs.length / 2) n p h1 h2 h3 h4 hvx hva h40 hx2 (by omega) hh2 (by omega) hh1
    simp only [bkcs, bkr, List.cons_append, List.nil_append, List.append_assoc] at fin
    have hq : (xs.length : Int) / 2 = ((xs.length / 2 : Nat) : Int) := by omega
    have dt : (dsA xs).take (xs.length / 2) = dsA (xs.take (xs.length / 2)) := by simp [dsA]
    have h40' : ¬ (40 : Int) < xs.length := by omega
    have hh2' : xs.length / 2 ≤ xs.length := by omega
    generalize xs.length / 2 = h at *
    simp [tk, vx]
    refine call_on one ?_
    simp [tk, vx]
    refine call_on two ?_
    simp [tk, vx]
    refine call_on same ?_
    simp
    refine call_on va ?_
    have dt2 : vwL 1 ((dsA xs).take h) = dsA (xs.take h) := by rw [dt]; exact vwL_ds4 _
    simp [h40', hq]
    (repeat' first | omega | apply And.intro) <;>
    · refine call_on rn ?_
      simp [hh2', dt2]
      exact fin
end Go.Proofs.Dev

namespace Go.Proofs.Dev
open Go.ChangeShapes Go.WideShapes Go.ChangeAt Go.RowKit

theorem flatE_sls (c : Nat) : ∀ ps : List (List Int), flatE (sls c ps) = sls c ps
  | [] => rfl
  | p :: ps => by show cellsE _ ++ flatE (sls c ps) = _ :: sls c ps; rw [flatE_sls c ps]; rfl
theorem sized_sls (c : Nat) (ps : List (List Int)) : Sized 1 (sls c ps) := by
  intro e he
  obtain ⟨n, _, rfl⟩ := List.mem_map.1 he
  rfl
theorem RL_map {C : Ctx} {α : Type} {f : α → AV} {g : α → Value} : ∀ L : List α, (∀ x ∈ L, R C (f x) [] (g x)) → RL C (L.map f) [] (L.map g)
  | [], _ => by show RL C [] [] []; rw [RL]; exact ⟨rfl, rfl⟩
  | x :: xs, h => by
    show RL C (f x :: xs.map f) [] (g x :: xs.map g)
    rw [RL]; exact ⟨[], [], _, _, rfl, rfl, h x (by simp), RL_map xs fun y hy => h y (by simp [hy])⟩

section
variable {H : Type} {enc : TypeId × Value → H} {P : Program} {W : World}

theorem flatV_ints : ∀ xs : List Int, flatV (ints xs) = true
  | [] => rfl
  | x :: xs => by show (Value.oneCell' (.int .i64 x) && flatV (ints xs)) = true; rw [flatV_ints xs]; rfl

theorem R_ints_at {xs : List Int} {v : Value} (h : R (cin W [] fun _ => False) (.sl 1 1 (ints xs)) [] v) : R ((cin W [] fun _ => False).at 1) (.sl 1 1 (ints xs)) [] v := by
  rw [R] at h ⊢
  obtain ⟨h0, a, cap, hu, hle, h⟩ := h
  refine ⟨h0, a, cap, hu, hle, ?_⟩
  rcases h with h | ⟨b, p, us, ha, hb, hbad, hcells, hs, hr⟩
  · exact .inl h
  · refine .inr ⟨b, p, us, ha, hb, fun hx => hbad (hx rfl), hcells, hs, ?_⟩
    rw [flatE_ints] at hr ⊢
    exact (flatV_ok hr (flatV_ints xs)).2.1 _

theorem read_intss' {t e q : TypeId} {v : Value} {x : DataW H × List MemPlace} {fuel : Nat} (ht : P.underlying t = some (.slice e)) (he : P.underlying e = some (.slice q)) (hq : P.underlying q = some (.int .i64)) (ce : P.cellsOf e = 1) (cq : P.cellsOf q = 1)
    (hf : DataW.trod enc P W 0 (fun _ => true) true fuel t [v] = some x) :
    ∃ ps : List (List Int), ps.length ≤ maxLen ∧ (∀ p ∈ ps, p.length ≤ maxLen) ∧ R (cin W [] fun _ => False) (.sl 1 1 (sls 1 ps)) [] v := by
  rcases Go.Deep.open_slice1 ht ce hf with ⟨hcs, hx⟩ | ⟨a, len, cap, m, n, V, D, Pl, hcs, _, hl, hm, hmm, hx, hcell⟩
  · simp at hcs
    subst hcs
    exact ⟨[], by simp, by simp, by rw [R]; exact ⟨rfl, none, 0, rfl, Nat.le_refl _, .inl rfl⟩⟩
  · simp at hcs
    subst hcs
    simp only [if_true] at hmm
    have each : ∀ i, i < len → ∃ xs : List Int, xs.length ≤ maxLen ∧ R (cin W [] fun _ => False) (.sl 1 1 (ints xs)) [] (V i) := by
      intro i hi
      obtain ⟨xs, h1, _, h2⟩ := read_ints' he hq cq (hcell i (by omega)).2
      exact ⟨xs, h1, h2⟩
    obtain ⟨X, hX⟩ := Go.Deep.choose_lt each
    refine ⟨(List.range len).map X, by simp; omega, ?_, ?_⟩
    · intro p hp
      obtain ⟨i, hi, rfl⟩ := List.mem_map.1 hp
      exact (hX i (by simpa using hi)).1
    · refine view_row (xs := (List.range len).map V) hl (by simp) (by simp) ?_ (sized_sls _ _) ?_
      · intro i v hi
        rw [List.getElem?_map] at hi
        simp only [Option.map_eq_some_iff] at hi
        obtain ⟨k, hk, rfl⟩ := hi
        have hlt : i < len := by have := (List.getElem?_eq_some_iff.1 hk).1; simpa using this
        rw [List.getElem?_range hlt] at hk
        cases hk
        exact (hcell i (by omega)).1
      · rw [flatE_sls]
        unfold sls
        rw [List.map_map]
        exact RL_map _ fun i hi => R_ints_at (hX i (by simpa using hi)).2

theorem array6 {α : Type} {cs : Array α} (h : cs.size = 6) : ∃ c0 c1 c2 c3 c4 c5, cs = #[c0, c1, c2, c3, c4, c5] := by
  obtain ⟨l⟩ := cs
  match l, h with
  | [c0, c1, c2, c3, c4, c5], _ => exact ⟨c0, c1, c2, c3, c4, c5, rfl⟩

/-- A book: a struct of a region, two lists of numbers and a list of lists. -/
theorem read_book {t tb ti tn : TypeId} {f0 f1 f2 f3 g0 g1 g2 : Field} {v : Value} {d : DataW H} {p : List MemPlace} {base : Nat} (hs : P.underlying t = some (.struct #[f0, f1, f2, f3])) (hC : P.cellsOf t = 6)
    (hg : P.underlying f0.type = some (.struct #[g0, g1, g2])) (c0 : P.cellsOf f0.type = 3) (c1 : P.cellsOf f1.type = 1) (c2 : P.cellsOf f2.type = 1) (c3 : P.cellsOf f3.type = 1)
    (o : f0.offset = 0 ∧ f1.offset = 3 ∧ f2.offset = 4 ∧ f3.offset = 5) (og : g0.offset = 0 ∧ g1.offset = 1 ∧ g2.offset = 2) (d0 : P.cellsOf g0.type = 1) (d1 : P.cellsOf g1.type = 1) (d2 : P.cellsOf g2.type = 1)
    (h0 : P.underlying g0.type = some (.int .i64)) (h1 : P.underlying g1.type = some (.int .i64)) (h2 : P.underlying g2.type = some (.slice tb)) (hb : P.underlying tb = some .bool) (hcb : P.cellsOf tb = 1)
    (h3 : P.underlying f1.type = some (.slice ti)) (h4 : P.underlying f2.type = some (.slice ti)) (hi : P.underlying ti = some (.int .i64)) (hci : P.cellsOf ti = 1)
    (h5 : P.underlying f3.type = some (.slice tn)) (h6 : P.underlying tn = some (.slice ti)) (hcn : P.cellsOf tn = 1)
    (hv : Value.okWide P W .any base t v) (h : DataW.Trod enc P W 0 (fun _ => true) true t v d p) :
    ∃ (a b : Int) (cs : List Bool) (ds ls : List Int) (ps : List (List Int)), cs.length ≤ maxLen ∧ ds.length ≤ maxLen ∧ ls.length ≤ maxLen ∧ ps.length ≤ maxLen ∧ (∀ p ∈ ps, p.length ≤ maxLen) ∧ R (cin W [] fun _ => False) (bkA a b cs ds ls ps) [] v := by
  obtain ⟨vs, rfl, hsz⟩ := okWide_struct hs hv
  obtain ⟨v0, v1, v2, v3, v4, v5, rfl⟩ := array6 (hsz.trans hC)
  obtain ⟨fuel, hf⟩ := h
  obtain ⟨y0, y1, y2, y3, n, hx, _, t0, t1, t2, t3⟩ := Joins.trod_struct4 hs hf
  obtain ⟨o0, o1, o2, o3⟩ := o
  obtain ⟨q0, q1, q2⟩ := og
  have t0' : DataW.trod enc P W 0 (fun _ => true) true n f0.type [v0, v1, v2] = some y0 := by simpa [Value.cells, o0, c0] using t0
  have t1' : DataW.trod enc P W 0 (fun _ => true) true n f1.type [v3] = some y1 := by simpa [Value.cells, o1, c1] using t1
  have t2' : DataW.trod enc P W 0 (fun _ => true) true n f2.type [v4] = some y2 := by simpa [Value.cells, o2, c2] using t2
  have t3' : DataW.trod enc P W 0 (fun _ => true) true n f3.type [v5] = some y3 := by simpa [Value.cells, o3, c3] using t3
  obtain ⟨z0, z1, z2, k, hz, _, s0, s1, s2⟩ := Go.Deep.trod_struct3 hg t0'
  have s0' : DataW.trod enc P W 0 (fun _ => true) true k g0.type [v0] = some z0 := by simpa [q0, d0] using s0
  have s1' : DataW.trod enc P W 0 (fun _ => true) true k g1.type [v1] = some z1 := by simpa [q1, d1] using s1
  have s2' : DataW.trod enc P W 0 (fun _ => true) true k g2.type [v2] = some z2 := by simpa [q2, d2] using s2
  obtain ⟨a, ha, _, wa⟩ := DataW.trod_int h0 s0'
  obtain ⟨b, hb', _, wb⟩ := DataW.trod_int h1 s1'
  obtain ⟨cs, hl0, r0⟩ := read_bools' h2 hb hcb s2'
  obtain ⟨ds, hl1, _, r1⟩ := read_ints' h3 hi hci t1'
  obtain ⟨ls, hl2, _, r2⟩ := read_ints' h4 hi hci t2'
  obtain ⟨ps, hl3, hl4, r3⟩ := read_intss' h5 h6 hi hcn hci t3'
  simp at ha hb'
  subst ha; subst hb'
  refine ⟨a, b, cs, ds, ls, ps, hl0, hl1, hl2, hl3, hl4, ?_⟩
  unfold bkA
  rw [R]
  refine ⟨[_, _, v2, v3, v4, v5], rfl, ?_⟩
  rw [RL]; refine ⟨[], [], _, _, rfl, rfl, by rw [R]; exact ⟨rfl, rfl⟩, ?_⟩
  rw [RL]; refine ⟨[], [], _, _, rfl, rfl, by rw [R]; exact ⟨rfl, rfl⟩, ?_⟩
  rw [RL]; refine ⟨[], [], _, _, rfl, rfl, r0, ?_⟩
  rw [RL]; refine ⟨[], [], _, _, rfl, rfl, r1, ?_⟩
  rw [RL]; refine ⟨[], [], _, _, rfl, rfl, r2, ?_⟩
  rw [RL]; exact ⟨[], [], _, _, rfl, rfl, r3, by rw [RL]; exact ⟨rfl, rfl⟩⟩

end
end Go.Proofs.Dev

namespace Go.Proofs.YtakaenhgbkbegaaGreat
open Go.ChangeShapes Go.WideShapes Go.ChangeAt Go.RowKit Go.Proofs.Dev
end Go.Proofs.YtakaenhgbkbegaaGreat

namespace Go.Proofs.YtakaenhgbkbegaaGreat
open Go.ChangeShapes Go.WideShapes Go.ChangeAt Go.RowKit Go.Proofs.Dev

theorem kBook : Tryz.prog.cellsOf 47 = 6 := by kernel_rfl
theorem kReg : Tryz.prog.cellsOf 45 = 3 := by kernel_rfl
theorem kDeed : Tryz.prog.cellsOf 48 = 3 := by kernel_rfl
theorem kInt : Tryz.prog.cellsOf 3 = 1 := by kernel_rfl
theorem kBool : Tryz.prog.cellsOf 4 = 1 := by kernel_rfl
theorem kInts : Tryz.prog.cellsOf 26 = 1 := by kernel_rfl
theorem kIntss : Tryz.prog.cellsOf 29 = 1 := by kernel_rfl
theorem kBools : Tryz.prog.cellsOf 23 = 1 := by kernel_rfl
theorem rBook : Tryz.prog.readableRec 47 = true := by kernel_rfl
theorem rDeed : Tryz.prog.readableRec 48 = true := by kernel_rfl
theorem oneDeed : Go.Deep.oneCellFields Tryz.prog #[{ name := "Kind", type := 3, offset := 0, embedded := false, tag := "", pkgPath := "", byteOffset := 0 },
        { name := "Spot", type := 3, offset := 1, embedded := false, tag := "", pkgPath := "", byteOffset := 8 },
        { name := "Way", type := 3, offset := 2, embedded := false, tag := "", pkgPath := "", byteOffset := 16 }] = true := by kernel_rfl

theorem read_deed {P : Program} {W : World} {H : Type} {enc : TypeId × Value → H} {t : TypeId} {f0 f1 f2 : Field} {v : Value} {d : DataW H} {p : List MemPlace} {base : Nat} (hs : P.underlying t = some (.struct #[f0, f1, f2])) (hone : Go.Deep.oneCellFields P #[f0, f1, f2] = true) (hC : P.cellsOf t = 3)
    (h0 : P.underlying f0.type = some (.int .i64)) (h1 : P.underlying f1.type = some (.int .i64)) (h2 : P.underlying f2.type = some (.int .i64))
    (hv : Value.okWide P W .any base t v) (h : DataW.Trod enc P W 0 (fun _ => true) true t v d p) :
    ∃ k s w : Int, s ≤ 9223372036854775807 ∧ R (cin W [] fun _ => False) (.agg [.v (.int .i64 k), .v (.int .i64 s), .v (.int .i64 w)]) [] v := by
  obtain ⟨v0, v1, v2, y0, y1, y2, n, rfl, _, _, t0, t1, t2⟩ := Joins.open_agg3 hs hone hC hv h
  obtain ⟨a, ha, _, wa⟩ := DataW.trod_int h0 t0
  obtain ⟨b, hb, _, wb⟩ := DataW.trod_int h1 t1
  obtain ⟨c, hc, _, wc⟩ := DataW.trod_int h2 t2
  simp at ha hb hc
  subst ha; subst hb; subst hc
  refine ⟨a, b, c, ?_, ?_⟩
  · simp [Lit.wf] at wb
    exact wb.2
  rw [R]
  refine ⟨[_, _, _], rfl, ?_⟩
  rw [RL]
  refine ⟨[], [], _, _, rfl, rfl, by rw [R]; exact ⟨rfl, rfl⟩, ?_⟩
  rw [RL]
  refine ⟨[], [], _, _, rfl, rfl, by rw [R]; exact ⟨rfl, rfl⟩, ?_⟩
  rw [RL]
  exact ⟨[], [], _, _, rfl, rfl, by rw [R]; exact ⟨rfl, rfl⟩, by rw [RL]; exact ⟨rfl, rfl⟩⟩

end Go.Proofs.YtakaenhgbkbegaaGreat

namespace Go.Proofs.Dev
set_option maxRecDepth 100000

-- 2 parameters, results [.t 4], 104 slots, modes [false, false]
@[simp] abbrev n_laws_FnExactBookDo : Nat := 5
def c_laws_FnExactBookDo_T0 : ACode := .seq (.seq (.reg [.la 87 6 14, .la 88 6 6, .o 89 (.call 30 []) [.t 87, .t 88], .o 90 (.un .not) [.t 89], .m 91 90,
 .mg 92 15 91 false, .mg 93 7 91 false, .g 94 (.bin .neq 2) [.t 92, .t 93] 91 false, .o 95 .pick [.t 91, .kb true, .t 94]]) <|
 .cond (.t 95) ( .seq (.reg [.o 4 .mv [.kb false]]) <| .ret) ( .skip)) <| .seq (.reg [.o 13 .mv [.k 1]]) <| .seq (.reg [.la 96 6 9, .m 97 13,
 .o 98 (.call 32 []) [.t 96, .t 97], .m 13 98]) <| .seq (.seq (.reg [.m 99 13, .o 100 (.bin .lss 0) [.t 99, .k 0]]) <|
 .cond (.t 100) ( .seq (.reg [.o 4 .mv [.kb false]]) <| .ret) ( .skip)) <| .seq (.seq (.reg [.m 101 13, .m 102 12, .o 103 (.bin .neq 0) [.t 101, .t 102]]) <|
 .cond (.t 103) ( .seq (.reg [.o 4 .mv [.kb false]]) <| .ret) ( .skip)) <| .seq (.reg [.o 4 .mv [.kb true]]) <| .ret

abbrev c_laws_FnExactBookDo_E3_p0 : Plan := .al (.o 84 (.call 18 []) [.t 81, .t 83]) ( .take (.m 79 84) <| .take (.e 85 0 79) <| .take (.e 86 1 79) <| .al (.s (.store 6) [.t 14, .t 85]) ( .take (.m 15 86) <| .done))
abbrev c_laws_FnExactBookDo_E3_p1 : Plan := .al (.o 83 (.call 29 []) [.t 82]) c_laws_FnExactBookDo_E3_p0
def c_laws_FnExactBookDo_E3 : BCode := .seq (.base (.reg [.o 11 .mv [.k 1]])) <| .seq (.base (.reg [.la 52 6 8, .m 53 11, .o 54 (.call 31 []) [.t 52, .t 53],
 .m 11 54])) <| .seq (.base (.seq (.reg [.m 55 11, .o 56 (.bin .lss 0) [.t 55, .k 0], .m 57 56, .g 58 (.load true 6) [.t 9] 57 false,
 .g 59 (.load true 6) [.t 6] 57 false, .g 60 (.call 30 []) [.t 58, .t 59] 57 false, .g 61 (.un .not) [.t 60] 57 false, .o 62 .pick [.t 57, .kb true, .t 61],
 .m 63 62, .mg 64 10 63 false, .mg 65 7 63 false, .g 66 (.bin .neq 2) [.t 64, .t 65] 63 false, .o 67 .pick [.t 63, .kb true, .t 66]]) <|
 .cond (.t 67) ( .seq (.reg [.o 4 .mv [.kb false]]) <| .ret) ( .skip))) <| .seq (.base (.reg [.o 12 .mv [.k 1]])) <| .seq (.base (.reg [.la 68 6 9, .m 69 12,
 .o 70 (.call 31 []) [.t 68, .t 69], .m 12 70])) <| .seq (.base (.reg [.o 13 .mv [.k 1]])) <| .seq (.base (.reg [.la 71 6 9, .m 72 13,
 .o 73 (.call 32 []) [.t 71, .t 72], .m 13 73])) <| .seq (.base (.seq (.reg [.m 74 13, .o 75 (.bin .lss 0) [.t 74, .k 0]]) <|
 .cond (.t 75) ( .seq (.reg [.o 4 .mv [.kb false]]) <| .ret) ( .skip))) <| .seq (.base (.seq (.reg [.m 76 13, .m 77 12, .o 78 (.bin .neq 0) [.t 76, .t 77]]) <|
 .cond (.t 78) ( .seq (.reg [.o 4 .mv [.kb false]]) <| .ret) ( .skip))) <| .seq (.early [.la 80 6 2,
 .la 82 3 3] ( .alt (.o 81 (.call 28 []) [.t 80]) ( .alt (.o 83 (.call 29 []) [.t 82]) ( .alt (.o 84 (.call 18 []) [.t 81, .t 83]) ( .take (.m 79 84) <|
 .take (.e 85 0 79) <| .take (.e 86 1 79) <| .al (.o 14 (.alloc bz) []) ( .al (.s (.store 6) [.t 14, .t 85]) ( .take (.m 15 86) <| .done))) <|
 .al (.o 14 (.alloc bz) []) c_laws_FnExactBookDo_E3_p0) <|
 .al (.o 14 (.alloc bz) []) c_laws_FnExactBookDo_E3_p1) <|
 .al (.o 14 (.alloc bz) []) ( .al (.o 81 (.call 28 []) [.t 80]) c_laws_FnExactBookDo_E3_p1))) <|
 .base (.gc [] [6, 7, 9, 12, 14, 15] c_laws_FnExactBookDo_T0)

abbrev c_laws_FnExactBookDo_E2_p0 : Plan := .al (.o 50 (.call 30 []) [.t 47, .t 49]) ( .take (.o 51 (.un .not) [.t 50]) <| .done)
abbrev c_laws_FnExactBookDo_E2_p1 : Plan := .al (.o 49 (.call 28 []) [.t 48]) c_laws_FnExactBookDo_E2_p0
def c_laws_FnExactBookDo_E2 : BCode := .seq (.base (.seq (.reg [.la 38 6 9, .la 39 6 6, .o 40 (.call 30 []) [.t 38, .t 39], .o 41 (.un .not) [.t 40], .m 42 41,
 .mg 43 10 42 false, .mg 44 7 42 false, .g 45 (.bin .neq 2) [.t 43, .t 44] 42 false, .o 46 .pick [.t 42, .kb true, .t 45]]) <|
 .cond (.t 46) ( .seq (.reg [.o 4 .mv [.kb false]]) <| .ret) ( .skip))) <|
 .seq (.base (.seq (.draw ( .alt (.la 47 6 8) ( .al (.la 48 6 2) c_laws_FnExactBookDo_E2_p1) <|
 .al (.la 48 6 2) ( .alt (.la 47 6 8) c_laws_FnExactBookDo_E2_p1 <| .al (.o 49 (.call 28 []) [.t 48]) ( .al (.la 47 6 8) c_laws_FnExactBookDo_E2_p0)))) <|
 .cond (.t 51) ( .seq (.reg [.o 4 .mv [.kb false]]) <| .ret) ( .skip))) <| .gc [] [2, 3, 6, 7, 8, 9, 10] c_laws_FnExactBookDo_E3

abbrev c_laws_FnExactBookDo_E1_p0 : Plan := .al (.o 35 (.call 18 []) [.t 32, .t 34]) ( .take (.m 31 35) <| .take (.e 36 0 31) <| .take (.e 37 1 31) <| .al (.s (.store 6) [.t 9, .t 36]) ( .take (.m 10 37) <| .done))
abbrev c_laws_FnExactBookDo_E1_p1 : Plan := .alt (.o 35 (.call 18 []) [.t 32, .t 34]) ( .take (.m 31 35) <| .take (.e 36 0 31) <| .take (.e 37 1 31) <| .al (.o 9 (.alloc bz) []) ( .al (.s (.store 6) [.t 9, .t 36]) ( .take (.m 10 37) <| .done))) <| .al (.o 9 (.alloc bz) []) c_laws_FnExactBookDo_E1_p0
abbrev c_laws_FnExactBookDo_E1_p2 : Plan := .al (.o 34 (.call 29 []) [.t 33]) c_laws_FnExactBookDo_E1_p0
abbrev c_laws_FnExactBookDo_E1_p3 : Plan := .alt (.la 32 6 8) c_laws_FnExactBookDo_E1_p2 <| .al (.o 34 (.call 29 []) [.t 33]) ( .al (.la 32 6 8) c_laws_FnExactBookDo_E1_p0)
abbrev c_laws_FnExactBookDo_E1_p4 : Plan := .alt (.o 34 (.call 29 []) [.t 33]) c_laws_FnExactBookDo_E1_p1 <| .al (.o 9 (.alloc bz) []) c_laws_FnExactBookDo_E1_p2
def c_laws_FnExactBookDo_E1 : BCode := .seq (.base (.reg [.la 29 6 2, .o 30 (.call 28 []) [.t 29], .o 8 (.alloc bz) [], .s (.store 6) [.t 8, .t 30]])) <|
 .seq (.base (.draw ( .alt (.la 32 6 8) ( .alt (.la 33 3 3) c_laws_FnExactBookDo_E1_p4 <|
 .al (.o 9 (.alloc bz) []) ( .al (.la 33 3 3) c_laws_FnExactBookDo_E1_p2)) <|
 .alt (.la 33 3 3) ( .alt (.la 32 6 8) c_laws_FnExactBookDo_E1_p4 <|
 .alt (.o 34 (.call 29 []) [.t 33]) ( .alt (.la 32 6 8) c_laws_FnExactBookDo_E1_p1 <| .al (.o 9 (.alloc bz) []) ( .al (.la 32 6 8) c_laws_FnExactBookDo_E1_p0)) <|
 .al (.o 9 (.alloc bz) []) c_laws_FnExactBookDo_E1_p3) <|
 .al (.o 9 (.alloc bz) []) ( .alt (.la 32 6 8) ( .al (.la 33 3 3) c_laws_FnExactBookDo_E1_p2) <|
 .al (.la 33 3 3) c_laws_FnExactBookDo_E1_p3)))) <| .gc [] [2, 3, 6, 7, 8, 9, 10] c_laws_FnExactBookDo_E2

abbrev c_laws_FnExactBookDo_E_p0 : Plan := .al (.o 26 (.call 27 []) [.t 23, .t 25]) ( .take (.m 21 26) <| .take (.e 27 0 21) <| .take (.e 28 1 21) <| .al (.s (.store 6) [.t 6, .t 27]) ( .take (.m 7 28) <| .done))
def c_laws_FnExactBookDo_E : BCode := .seq (.base (.reg [.o 2 .box [.t 0], .o 3 .box [.t 1], .o 4 .mv [.kb false]])) <|
 .seq (.base (.reg [.o 5 .mv [.k 1048576]])) <| .seq (.base (.reg [.la 16 6 2, .m 17 5, .o 18 (.call 26 []) [.t 16, .t 17], .m 5 18])) <|
 .seq (.base (.seq (.reg [.m 19 5, .o 20 (.bin .lss 0) [.t 19, .k 0]]) <| .cond (.t 20) ( .seq (.reg [.o 4 .mv [.kb true]]) <| .ret) ( .skip))) <| .frz 2 <|
 .frz 3 <| .seq (.early [.la 22 6 2, .la 24 3 3] ( .alt (.o 23 (.call 28 []) [.t 22]) ( .alt (.o 25 (.call 29 []) [.t 24]) ( .alt (.o 26 (.call 27 []) [.t 23,
 .t 25]) ( .take (.m 21 26) <| .take (.e 27 0 21) <| .take (.e 28 1 21) <| .al (.o 6 (.alloc bz) []) ( .al (.s (.store 6) [.t 6, .t 27]) ( .take (.m 7 28) <|
 .done))) <| .al (.o 6 (.alloc bz) []) c_laws_FnExactBookDo_E_p0) <|
 .al (.o 6 (.alloc bz) []) ( .al (.o 25 (.call 29 []) [.t 24]) c_laws_FnExactBookDo_E_p0)) <|
 .al (.o 6 (.alloc bz) []) ( .al (.o 23 (.call 28 []) [.t 22]) ( .al (.o 25 (.call 29 []) [.t 24]) c_laws_FnExactBookDo_E_p0)))) <| .gc [] [2, 3,
 6, 7] c_laws_FnExactBookDo_E1

theorem k_laws_FnExactBookDo : cFnB Tryz.prog n_laws_FnExactBookDo 104 [.t 4] c_laws_FnExactBookDo_E := ⟨Tryz.f5, _, Tryz.func5, rfl, by kernel_rfl, by kernel_rfl, by kernel_rfl, by kernel_rfl⟩


end Go.Proofs.Dev

namespace Go.Proofs.Dev
set_option linter.unusedSimpArgs false
set_option maxRecDepth 100000

theorem s_laws_toDeed (k s w : Int) : SoundAt Tryz.prog n_laws_toDeed [deedV k s w] (deedV k s w) [.bot] := by
  refine fn_ok (md := md3) (ms := [false]) k_laws_toDeed (by simp) ?_
  simp [c_laws_toDeed]

set_option maxHeartbeats 4000000 in
theorem bd_T0 (W T : Int) (cs : List Bool) (ds ls : List Int) (ps : List (List Int)) (k s w : Int) (W2 T2 : Int) (cs2 : List Bool) (ds2 ls2 : List Int) (ps2 : List (List Int)) (b2 : Bool) (hc : cs.length < 2 ^ 21) (hd : ds.length < 2 ^ 21) (hl : ls.length < 2 ^ 21) (hs : sumL ps < 2 ^ 50) (hb : ps.length < 2 ^ 40) (hp : ∀ p ∈ ps, p.length < 2 ^ 40)
    (hc2 : cs2.length ≤ 40) (hd2 : ds2.length ≤ 40) (hl2 : ls2.length ≤ 40) (hb2 : ps2.length ≤ 40) (hp2 : ∀ p ∈ ps2, p.length ≤ 40) (hs2 : sumL ps2 < 2 ^ 50) (h3 : ¬ (1048576 : Int) < totB cs ds ls ps)
    (sp : SoundAt Tryz.prog n_spec_BookDo [bkA W T cs ds ls ps, deedV k s w] (.tup [bkO W2 T2 cs2 ds2 ls2 ps2, .v (.bool b2)]) [.bot, .bot])
    (im : SoundAt Tryz.prog n_impl_BookDo [bkA W T cs ds ls ps, deedV k s w] (.tup [bkO W2 T2 cs2 ds2 ls2 ps2, .v (.bool b2)]) [.bot, .bot]) :
    awp Tryz.prog md3 c_laws_FnExactBookDo_T0 (Fin [RV.t 4] 104 2 [false, false] (.v (.bool true)) [.bot, .bot])
      [(6, .lp 0 0 0 0), (7, .v (.bool b2)), (9, .lp 0 1 0 0), (12, .v (.int .i64 (endM 1 cs2 ds2 ls2 ps2))), (14, .lp 0 2 0 0), (15, .v (.bool b2))]
      [some (.box (bkcs 3 W2 T2 cs2 ds2 ls2 ps2)), some (.box (bkcs 7 W2 T2 cs2 ds2 ls2 ps2)), some (.box (bkcs 11 W2 T2 cs2 ds2 ls2 ps2)), some (.arr 1 (bools cs2)), some (.arr 1 (ints ds2)), some (.arr 1 (ints ls2)), some (.arr 1 (oss ps2)),
        some (.arr 1 (bools (mkC 1 cs2))), some (.arr 1 (ints (mkD 1 cs2 ds2))), some (.arr 1 (ints (mkL 1 cs2 ds2 ls2))), some (.arr 1 (oss (mkP 1 cs2 ds2 ls2 ps2))), some (.arr 1 (bools cs2)), some (.arr 1 (ints ds2)), some (.arr 1 (ints ls2)), some (.arr 1 (oss ps2))] := by
  have hp2' : ∀ p ∈ ps2, p.length < 2 ^ 40 := fun p h => by have := hp2 p h; omega
  have tob := s_laws_toBook W T cs ds ls ps (by omega) (by omega) (by omega) (by omega) hp
  have tod := s_laws_toDeed k s w
  have eqb := s_laws_eqBook W T cs ds ls ps (by omega) (by omega) (by omega) (by omega) hp
  have eqb2 := s_laws_eqBook W2 T2 cs2 ds2 ls2 ps2 (by omega) (by omega) (by omega) (by omega) hp2'
  have mk := s_laws_markBook W T cs ds ls ps 1 (by omega) (by omega) hc hd hl hs hb hp
  have mk2 := s_laws_markBook W2 T2 cs2 ds2 ls2 ps2 1 (by omega) (by omega) (by omega) (by omega) (by omega) hs2 (by omega) hp2'
  have held := s_laws_heldBook W2 T2 cs2 ds2 ls2 ps2 1 (by omega) (by omega) (by omega) (by omega) (by omega) hs2 (by omega) hp2'
  have hk : ¬ endM 1 cs ds ls ps < 0 := by unfold endM; omega
  have hk2 : ¬ endM 1 cs2 ds2 ls2 ps2 < 0 := by unfold endM; omega
  simp [c_laws_FnExactBookDo_T0]
  refine call_on eqb2 ?_
  simp
  refine call_on held ?_
  simp [hk2]

set_option maxHeartbeats 4000000 in
theorem bd_E3 (W T : Int) (cs : List Bool) (ds ls : List Int) (ps : List (List Int)) (k s w : Int) (W2 T2 : Int) (cs2 : List Bool) (ds2 ls2 : List Int) (ps2 : List (List Int)) (b2 : Bool) (hc : cs.length < 2 ^ 21) (hd : ds.length < 2 ^ 21) (hl : ls.length < 2 ^ 21) (hs : sumL ps < 2 ^ 50) (hb : ps.length < 2 ^ 40) (hp : ∀ p ∈ ps, p.length < 2 ^ 40)
    (hc2 : cs2.length ≤ 40) (hd2 : ds2.length ≤ 40) (hl2 : ls2.length ≤ 40) (hb2 : ps2.length ≤ 40) (hp2 : ∀ p ∈ ps2, p.length ≤ 40) (hs2 : sumL ps2 < 2 ^ 50) (h3 : ¬ (1048576 : Int) < totB cs ds ls ps)
    (sp : SoundAt Tryz.prog n_spec_BookDo [bkA W T cs ds ls ps, deedV k s w] (.tup [bkO W2 T2 cs2 ds2 ls2 ps2, .v (.bool b2)]) [.bot, .bot])
    (im : SoundAt Tryz.prog n_impl_BookDo [bkA W T cs ds ls ps, deedV k s w] (.tup [bkO W2 T2 cs2 ds2 ls2 ps2, .v (.bool b2)]) [.bot, .bot]) :
    awpB Tryz.prog md3 c_laws_FnExactBookDo_E3 (Fin [RV.t 4] 104 2 [false, false] (.v (.bool true)) [.bot, .bot])
      [(2, .vp 1 [.v (.int .i64 W), .v (.int .i64 T), .sl 1 1 (bools cs), .sl 1 1 (ints ds), .sl 1 1 (ints ls), .sl 1 1 (sls 1 ps)] 0),
        (3, .vp 1 [.v (.int .i64 k), .v (.int .i64 s), .v (.int .i64 w)] 0), (6, .lp 0 0 0 0), (7, .v (.bool b2)), (8, .lp 0 1 0 0), (9, .lp 0 2 0 0), (10, .v (.bool b2))]
      [some (.box (bkcs 3 W2 T2 cs2 ds2 ls2 ps2)), some (.box (bkcs 7 W T cs ds ls ps)), some (.box (bkcs 11 W2 T2 cs2 ds2 ls2 ps2)), some (.arr 1 (bools cs2)), some (.arr 1 (ints ds2)), some (.arr 1 (ints ls2)), some (.arr 1 (oss ps2)),
        some (.arr 1 (bools cs)), some (.arr 1 (ints ds)), some (.arr 1 (ints ls)), some (.arr 1 (oss ps)), some (.arr 1 (bools cs2)), some (.arr 1 (ints ds2)), some (.arr 1 (ints ls2)), some (.arr 1 (oss ps2))] := by
  have hp2' : ∀ p ∈ ps2, p.length < 2 ^ 40 := fun p h => by have := hp2 p h; omega
  have tob := s_laws_toBook W T cs ds ls ps (by omega) (by omega) (by omega) (by omega) hp
  have tod := s_laws_toDeed k s w
  have eqb := s_laws_eqBook W T cs ds ls ps (by omega) (by omega) (by omega) (by omega) hp
  have eqb2 := s_laws_eqBook W2 T2 cs2 ds2 ls2 ps2 (by omega) (by omega) (by omega) (by omega) hp2'
  have mk := s_laws_markBook W T cs ds ls ps 1 (by omega) (by omega) hc hd hl hs hb hp
  have mk2 := s_laws_markBook W2 T2 cs2 ds2 ls2 ps2 1 (by omega) (by omega) (by omega) (by omega) (by omega) hs2 (by omega) hp2'
  have held := s_laws_heldBook W2 T2 cs2 ds2 ls2 ps2 1 (by omega) (by omega) (by omega) (by omega) (by omega) hs2 (by omega) hp2'
  have hk : ¬ endM 1 cs ds ls ps < 0 := by unfold endM; omega
  have hk2 : ¬ endM 1 cs2 ds2 ls2 ps2 < 0 := by unfold endM; omega
  have fin := bd_T0 W T cs ds ls ps k s w W2 T2 cs2 ds2 ls2 ps2 b2 hc hd hl hs hb hp hc2 hd2 hl2 hb2 hp2 hs2 h3 sp im
  simp only [bkcs] at fin
  simp [c_laws_FnExactBookDo_E3]
  refine call_on mk ?_
  simp [hk]
  refine call_on eqb2 ?_
  simp
  refine call_on mk2 ?_
  simp
  refine call_on held ?_
  simp [hk2]
  repeat' (first | exact fin | apply And.intro | (refine call_on tob ?_; simp) | (refine call_on tod ?_; simp) | (refine call_on im ?_; simp))

set_option maxHeartbeats 4000000 in
theorem bd_E2 (W T : Int) (cs : List Bool) (ds ls : List Int) (ps : List (List Int)) (k s w : Int) (W2 T2 : Int) (cs2 : List Bool) (ds2 ls2 : List Int) (ps2 : List (List Int)) (b2 : Bool) (hc : cs.length < 2 ^ 21) (hd : ds.length < 2 ^ 21) (hl : ls.length < 2 ^ 21) (hs : sumL ps < 2 ^ 50) (hb : ps.length < 2 ^ 40) (hp : ∀ p ∈ ps, p.length < 2 ^ 40)
    (hc2 : cs2.length ≤ 40) (hd2 : ds2.length ≤ 40) (hl2 : ls2.length ≤ 40) (hb2 : ps2.length ≤ 40) (hp2 : ∀ p ∈ ps2, p.length ≤ 40) (hs2 : sumL ps2 < 2 ^ 50) (h3 : ¬ (1048576 : Int) < totB cs ds ls ps)
    (sp : SoundAt Tryz.prog n_spec_BookDo [bkA W T cs ds ls ps, deedV k s w] (.tup [bkO W2 T2 cs2 ds2 ls2 ps2, .v (.bool b2)]) [.bot, .bot])
    (im : SoundAt Tryz.prog n_impl_BookDo [bkA W T cs ds ls ps, deedV k s w] (.tup [bkO W2 T2 cs2 ds2 ls2 ps2, .v (.bool b2)]) [.bot, .bot]) :
    awpB Tryz.prog md3 c_laws_FnExactBookDo_E2 (Fin [RV.t 4] 104 2 [false, false] (.v (.bool true)) [.bot, .bot])
      [(2, .vp 1 [.v (.int .i64 W), .v (.int .i64 T), .sl 1 1 (bools cs), .sl 1 1 (ints ds), .sl 1 1 (ints ls), .sl 1 1 (sls 1 ps)] 0),
        (3, .vp 1 [.v (.int .i64 k), .v (.int .i64 s), .v (.int .i64 w)] 0), (6, .lp 0 0 0 0), (7, .v (.bool b2)), (8, .lp 0 1 0 0), (9, .lp 0 2 0 0), (10, .v (.bool b2))]
      [some (.box (bkcs 3 W2 T2 cs2 ds2 ls2 ps2)), some (.box (bkcs 7 W T cs ds ls ps)), some (.box (bkcs 11 W2 T2 cs2 ds2 ls2 ps2)), some (.arr 1 (bools cs2)), some (.arr 1 (ints ds2)), some (.arr 1 (ints ls2)), some (.arr 1 (oss ps2)),
        some (.arr 1 (bools cs)), some (.arr 1 (ints ds)), some (.arr 1 (ints ls)), some (.arr 1 (oss ps)), some (.arr 1 (bools cs2)), some (.arr 1 (ints ds2)), some (.arr 1 (ints ls2)), some (.arr 1 (oss ps2))] := by
  have hp2' : ∀ p ∈ ps2, p.length < 2 ^ 40 := fun p h => by have := hp2 p h; omega
  have tob := s_laws_toBook W T cs ds ls ps (by omega) (by omega) (by omega) (by omega) hp
  have tod := s_laws_toDeed k s w
  have eqb := s_laws_eqBook W T cs ds ls ps (by omega) (by omega) (by omega) (by omega) hp
  have eqb2 := s_laws_eqBook W2 T2 cs2 ds2 ls2 ps2 (by omega) (by omega) (by omega) (by omega) hp2'
  have mk := s_laws_markBook W T cs ds ls ps 1 (by omega) (by omega) hc hd hl hs hb hp
  have mk2 := s_laws_markBook W2 T2 cs2 ds2 ls2 ps2 1 (by omega) (by omega) (by omega) (by omega) (by omega) hs2 (by omega) hp2'
  have held := s_laws_heldBook W2 T2 cs2 ds2 ls2 ps2 1 (by omega) (by omega) (by omega) (by omega) (by omega) hs2 (by omega) hp2'
  have hk : ¬ endM 1 cs ds ls ps < 0 := by unfold endM; omega
  have hk2 : ¬ endM 1 cs2 ds2 ls2 ps2 < 0 := by unfold endM; omega
  have fin := bd_E3 W T cs ds ls ps k s w W2 T2 cs2 ds2 ls2 ps2 b2 hc hd hl hs hb hp hc2 hd2 hl2 hb2 hp2 hs2 h3 sp im
  simp only [bkcs] at fin
  simp [c_laws_FnExactBookDo_E2]
  refine call_on eqb2 ?_
  simp
  repeat' (first | exact fin | apply And.intro | (refine call_on tob ?_; simp) | (refine call_on eqb ?_; simp))

set_option maxHeartbeats 4000000 in
theorem t_FnExactBookDo (W T : Int) (cs : List Bool) (ds ls : List Int) (ps : List (List Int)) (k s w : Int) (W2 T2 : Int) (cs2 : List Bool) (ds2 ls2 : List Int) (ps2 : List (List Int)) (b2 : Bool) (hc : cs.length < 2 ^ 21) (hd : ds.length < 2 ^ 21) (hl : ls.length < 2 ^ 21) (hs : sumL ps < 2 ^ 50) (hb : ps.length < 2 ^ 40) (hp : ∀ p ∈ ps, p.length < 2 ^ 40)
    (hc2 : cs2.length ≤ 40) (hd2 : ds2.length ≤ 40) (hl2 : ls2.length ≤ 40) (hb2 : ps2.length ≤ 40) (hp2 : ∀ p ∈ ps2, p.length ≤ 40) (hs2 : sumL ps2 < 2 ^ 50) (h3 : ¬ (1048576 : Int) < totB cs ds ls ps)
    (sp : SoundAt Tryz.prog n_spec_BookDo [bkA W T cs ds ls ps, deedV k s w] (.tup [bkO W2 T2 cs2 ds2 ls2 ps2, .v (.bool b2)]) [.bot, .bot])
    (im : SoundAt Tryz.prog n_impl_BookDo [bkA W T cs ds ls ps, deedV k s w] (.tup [bkO W2 T2 cs2 ds2 ls2 ps2, .v (.bool b2)]) [.bot, .bot]) :
    SoundAt Tryz.prog n_laws_FnExactBookDo [bkA W T cs ds ls ps, deedV k s w] (.v (.bool true)) [.bot, .bot] := by
  have hp2' : ∀ p ∈ ps2, p.length < 2 ^ 40 := fun p h => by have := hp2 p h; omega
  have tob := s_laws_toBook W T cs ds ls ps (by omega) (by omega) (by omega) (by omega) hp
  have tod := s_laws_toDeed k s w
  have eqb := s_laws_eqBook W T cs ds ls ps (by omega) (by omega) (by omega) (by omega) hp
  have eqb2 := s_laws_eqBook W2 T2 cs2 ds2 ls2 ps2 (by omega) (by omega) (by omega) (by omega) hp2'
  have mk := s_laws_markBook W T cs ds ls ps 1 (by omega) (by omega) hc hd hl hs hb hp
  have mk2 := s_laws_markBook W2 T2 cs2 ds2 ls2 ps2 1 (by omega) (by omega) (by omega) (by omega) (by omega) hs2 (by omega) hp2'
  have held := s_laws_heldBook W2 T2 cs2 ds2 ls2 ps2 1 (by omega) (by omega) (by omega) (by omega) (by omega) hs2 (by omega) hp2'
  have hk : ¬ endM 1 cs ds ls ps < 0 := by unfold endM; omega
  have hk2 : ¬ endM 1 cs2 ds2 ls2 ps2 < 0 := by unfold endM; omega
  refine fn_okB (md := md3) (ms := [false, false]) k_laws_FnExactBookDo (by simp) ?_
  simp [c_laws_FnExactBookDo_E]
  refine call_on (s_laws_szBook W T cs ds ls ps 1048576 (by omega) (by omega) (by omega) (by omega) (by omega) (by omega) (fun p h => by have := hp p h; omega)) ?_
  have hn : ¬ lessI 1048576 (totB cs ds ls ps) < 0 := by unfold lessI; split <;> omega
  simp [hn]
  refine frz_on rfl rfl rfl ?_
  refine frz_on rfl rfl rfl ?_
  simp
  have fin1 : awpB Tryz.prog md3 c_laws_FnExactBookDo_E1 (Fin [RV.t 4] 104 2 [false, false] (.v (.bool true)) [.bot, .bot])
      [(2, .vp 1 [.v (.int .i64 W), .v (.int .i64 T), .sl 1 1 (bools cs), .sl 1 1 (ints ds), .sl 1 1 (ints ls), .sl 1 1 (sls 1 ps)] 0),
        (3, .vp 1 [.v (.int .i64 k), .v (.int .i64 s), .v (.int .i64 w)] 0), (6, .lp 0 0 0 0), (7, .v (.bool b2))]
      [some (.box (bkcs 1 W2 T2 cs2 ds2 ls2 ps2)), some (.arr 1 (bools cs2)), some (.arr 1 (ints ds2)), some (.arr 1 (ints ls2)), some (.arr 1 (oss ps2))] := by
    simp [c_laws_FnExactBookDo_E1]
    refine call_on tob ?_
    simp
    have fin2 := bd_E2 W T cs ds ls ps k s w W2 T2 cs2 ds2 ls2 ps2 b2 hc hd hl hs hb hp hc2 hd2 hl2 hb2 hp2 hs2 h3 sp im
    simp only [bkcs] at fin2
    repeat' (first | exact fin2 | apply And.intro | (refine call_on tod ?_; simp) | (refine call_on im ?_; simp))
  repeat' (first | exact fin1 | apply And.intro | (refine call_on tob ?_; simp) | (refine call_on tod ?_; simp) | (refine call_on sp ?_; simp))
end Go.Proofs.Dev

namespace Go.Proofs.Dev
set_option linter.unusedSimpArgs false
set_option maxRecDepth 100000

theorem sumL_mul (n : Nat) : ∀ ps : List (List Int), (∀ p ∈ ps, p.length ≤ n) → sumL ps ≤ ps.length * n
  | [], _ => by simp [sumL]
  | p :: ps, h => by
    have h1 := h p (by simp)
    have h2 := sumL_mul n ps fun q hq => h q (by simp [hq])
    simp only [sumL, List.map_cons, List.sum_cons, List.length_cons] at *
    rw [Nat.add_mul]
    omega

theorem s_spec_BookDoA (W T : Int) (cs : List Bool) (ds ls : List Int) (ps : List (List Int)) (k s w : Int) (hc : cs.length < 2 ^ 40) (hd : ds.length < 2 ^ 40) (hl : ls.length < 2 ^ 40) (hb : ps.length < 2 ^ 40) (hp : ∀ p ∈ ps, p.length < 2 ^ 40) :
    SoundAt Tryz.prog n_spec_BookDo [bkA W T cs ds ls ps, deedV k s w]
      (.tup [if bookB W T cs ds ls ps = true then bkO W T cs ds (doI W T cs ds ls ps k s w).2.1 (doI W T cs ds ls ps k s w).2.2 else bkO 0 0 [] [] [] [], .v (.bool (bookB W T cs ds ls ps && (doI W T cs ds ls ps k s w).1))]) [.bot, .bot] := by
  cases ok : bookB W T cs ds ls ps with
  | false =>
    have hv := s_spec_BookValid W T cs ds ls ps hc hd hl hb hp
    rw [ok] at hv
    refine fn_ok (md := md5) (ms := [false, false]) k_spec_BookDo (by simp) ?_
    simp [c_spec_BookDo]
    refine call_on hv ?_
    simp
  | true =>
    obtain ⟨hf, h20, hpf⟩ := book_parts ok
    have fl := fair_len hf
    have := s_spec_BookDo W T cs ds ls ps k s w (by omega) (by omega) (by omega) (by omega) (fun p h => by have := fair_len (hpf p h); omega)
    rw [ok] at this
    exact this

theorem s_FnExactBookDo (W T : Int) (cs : List Bool) (ds ls : List Int) (ps : List (List Int)) (k s w : Int) (hc : cs.length ≤ 9223372036854775807) (hd : ds.length ≤ 9223372036854775807) (hl : ls.length ≤ 9223372036854775807) (hb : ps.length ≤ 9223372036854775807) (hp : ∀ p ∈ ps, p.length ≤ 9223372036854775807) (hs : s ≤ 9223372036854775807) :
    SoundAt Tryz.prog n_laws_FnExactBookDo [bkA W T cs ds ls ps, deedV k s w] (.v (.bool true)) [.bot, .bot] := by
  by_cases h3 : (1048576 : Int) < totB cs ds ls ps
  · refine fn_okB (md := md3) (ms := [false, false]) k_laws_FnExactBookDo (by simp) ?_
    simp [c_laws_FnExactBookDo_E]
    refine call_on (s_laws_szBook W T cs ds ls ps 1048576 (by omega) (by omega) hc hd hl hb hp) ?_
    simp [lessI, h3]
  obtain ⟨c1, c2, c3, c4, c5⟩ := tot_le (cs := cs) (ds := ds) (ls := ls) (ps := ps) (n := 1048576) (by omega)
  have c5' : ∀ p ∈ ps, p.length < 2 ^ 40 := fun p hp => by have := c5 p hp; omega
  have hsum : sumL ps < 2 ^ 50 := by
    have : totB cs ds ls ps ≤ 1048576 := by omega
    unfold totB at this; omega
  have sp := s_spec_BookDoA W T cs ds ls ps k s w (by omega) (by omega) (by omega) (by omega) c5'
  have im := s_impl_BookDoA W T cs ds ls ps k s w (by omega) (by omega) (by omega) (by omega) (fun p hp => by have := c5 p hp; omega) hs
  cases ok : bookB W T cs ds ls ps with
  | false =>
    rw [ok] at sp im
    simp only [Bool.false_eq_true, if_false, Bool.false_and] at sp im
    exact t_FnExactBookDo W T cs ds ls ps k s w 0 0 [] [] [] [] false (by omega) (by omega) (by omega) hsum (by omega) c5' (by simp) (by simp) (by simp) (by simp) (by simp) (by simp [sumL]) h3 sp im
  | true =>
    rw [ok] at sp im
    simp only [if_true, Bool.true_and] at sp im
    obtain ⟨hf, h20, hpf⟩ := book_parts (do_ok k s w ok)
    have fl := fair_len hf
    have h40 : ∀ p ∈ (doI W T cs ds ls ps k s w).2.2, p.length ≤ 40 := fun p h => by have := fair_len (hpf p h); omega
    have sl := sumL_mul 40 _ h40
    exact t_FnExactBookDo W T cs ds ls ps k s w W T cs ds _ _ _ (by omega) (by omega) (by omega) hsum (by omega) c5' (by omega) (by omega) (by omega) (by omega) h40 (by omega) h3 sp im
end Go.Proofs.Dev
