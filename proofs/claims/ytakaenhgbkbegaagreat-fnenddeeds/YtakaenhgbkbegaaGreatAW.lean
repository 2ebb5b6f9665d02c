/- Contracts of the functions of the program over slots and rows, each proved against the program itself; no condition beyond those that each theorem names. -/
import Derived.Test.YtakaenhgbkbegaaGreatAV
import Derived.Test.YtakaenhgbkbegaaGreatAU
import Derived.Test.YtakaenhgbkbegaaGreatProg
import Derived.Test.YtakaenhgbkbegaaGreatAR
import Derived.Test.YtakaenhgbkbegaaGreatAN
import Derived.Test.YtakaenhgbkbegaaGreatAL
import Derived.Test.YtakaenhgbkbegaaGreatAQ

set_option linter.unusedSimpArgs false
set_option linter.unusedVariables false

namespace Go.Proofs.Dev
set_option linter.unusedSimpArgs false
set_option maxRecDepth 100000

/-- A book is as it was drawn. -/
def bookSet (bs : List Int) (p d : Nat) (r : AV) (ups : List AV) : Prop := ∃ (W T : Int) (cs : List Bool) (ds ls : List Int) (ps : List (List Int)) (q : Nat), cs.length ≤ 37 ∧ ds.length ≤ 38 ∧ ls.length ≤ 38 ∧ ps.length ≤ 21 ∧ (∀ x ∈ ps, x.length ≤ 37) ∧ q ≤ p + d ∧
  r = bkO W T cs ds ls ps ∧ ups = [rdA bs q, .bot]

/-- Valid, or none at all. -/
def bookOk (W T : Int) (cs : List Bool) (ds ls : List Int) (ps : List (List Int)) : Prop := bookB W T cs ds ls ps = true ∨ (cs = [] ∧ ds = [] ∧ ls = [] ∧ ps = [])

theorem bookOk_len {W T : Int} {cs : List Bool} {ds ls : List Int} {ps : List (List Int)} (h : bookOk W T cs ds ls ps) : cs.length ≤ 36 ∧ ds.length ≤ 36 ∧ ls.length ≤ 36 ∧ ps.length ≤ 20 ∧ ∀ x ∈ ps, x.length ≤ 36 := by
  rcases h with h | ⟨rfl, rfl, rfl, rfl⟩
  · obtain ⟨h1, h2, h3⟩ := book_parts h
    obtain ⟨a1, a2, a3⟩ := fair_len h1
    refine ⟨a1, by omega, by omega, h2, fun x hx => ?_⟩
    have := fair_len (h3 x hx)
    omega
  · simp

theorem bare_lays {W T : Int} {cs : List Bool} : laysB W T cs (noneL cs) = true := by
  simp only [laysB, Bool.and_eq_true, decide_eq_true_eq, allB_iff]
  refine ⟨by simp [noneL], fun k hk => ?_⟩
  have : ati (noneL cs) k = 0 := by
    simp only [noneL, List.length_replicate] at hk
    simp [ati, noneL, hk]
  simp [layAt, this]
theorem none_ati (cs : List Bool) (k : Nat) : ati (noneL cs) k = 0 := by
  simp only [ati, noneL, Int.toNat_natCast, List.getD_eq_getElem?_getD]
  by_cases h : k < cs.length
  · simp [h]
  · simp [h]
theorem bare_fair {W T : Int} {cs : List Bool} {ds : List Int} (hr : regB W T cs = true) (hd : digsB cs ds = true) : fairB W T cs ds (noneL cs) = true := by
  refine fair_of hr hd bare_lays ?_
  have : pairsI W T ds (noneL cs) = [] := by
    simp [pairsI, pairsTo, none_ati]
  rw [this]; rfl

theorem new_ok (W T : Int) (cs : List Bool) (ds : List Int) : ∃ (W2 T2 : Int) (cs2 : List Bool) (ds2 ls2 : List Int), newB W T cs ds = bkO W2 T2 cs2 ds2 ls2 [] ∧ bookOk W2 T2 cs2 ds2 ls2 [] := by
  unfold newB
  split
  · rename_i h
    simp only [Bool.and_eq_true] at h
    exact ⟨W, T, cs, ds, noneL cs, rfl, .inl (book_of (bare_fair h.1 h.2) (by simp) (by simp))⟩
  · exact ⟨0, 0, [], [], [], rfl, .inr ⟨rfl, rfl, rfl, rfl⟩⟩

/-- What is laid after a deed is fair, and so is what is past. -/
theorem do_ok {W T : Int} {cs : List Bool} {ds ls : List Int} {ps : List (List Int)} (k s w : Int) (h : bookB W T cs ds ls ps = true) : bookB W T cs ds (doI W T cs ds ls ps k s w).2.1 (doI W T cs ds ls ps k s w).2.2 = true := by
  obtain ⟨h1, h2, h3⟩ := book_parts h
  unfold doI doRes
  split
  · exact h
  split
  · rcases List.eq_nil_or_concat ps with rfl | ⟨qs, q, hq⟩
    · exact h
    · rw [List.concat_eq_append] at hq
      subst hq
      simp only [List.getLast?_append, List.getLast?_singleton, Option.some_or, List.dropLast_concat]
      simp at h2
      exact book_of (h3 q (by simp)) (by omega) (fun p hp => h3 p (by simp [hp]))
  split
  · rename_i hb
    simp only [Bool.and_eq_true] at hb
    refine book_of hb.2 ?_ ?_
    · simp [bkPast]; omega
    · intro p hp
      have := List.mem_of_mem_drop hp
      simp at this
      rcases this with h4 | rfl
      · exact h3 p h4
      · exact h1
  · exact h

theorem bdo (W T : Int) (cs : List Bool) (ds ls : List Int) (ps : List (List Int)) (k s w : Int) (hk : bookOk W T cs ds ls ps) :
    ∃ (d : Bool) (W2 T2 : Int) (cs2 : List Bool) (ds2 ls2 : List Int) (ps2 : List (List Int)), SoundAt Tryz.prog n_spec_BookDo [bkA W T cs ds ls ps, deedV k s w] (.tup [bkO W2 T2 cs2 ds2 ls2 ps2, .v (.bool d)]) [.bot, .bot] ∧ bookOk W2 T2 cs2 ds2 ls2 ps2 := by
  obtain ⟨a1, a2, a3, a4, a5⟩ := bookOk_len hk
  have := s_spec_BookDo W T cs ds ls ps k s w (by omega) (by omega) (by omega) (by omega) (fun p hp => by have := a5 p hp; omega)
  cases hb : bookB W T cs ds ls ps with
  | true =>
    rw [hb] at this
    simp only [if_true] at this
    exact ⟨_, _, _, _, _, _, _, this, .inl (do_ok k s w hb)⟩
  | false =>
    rw [hb] at this
    exact ⟨_, _, _, _, _, _, _, this, .inr ⟨rfl, rfl, rfl, rfl⟩⟩

abbrev bkcs (i : Nat) (W T : Int) (cs : List Bool) (ds ls : List Int) (ps : List (List Int)) : List AV := [.v (.int .i64 W), .v (.int .i64 T), .ls 1 i 0 cs.length, .ls 1 (i + 1) 0 ds.length, .ls 1 (i + 2) 0 ls.length, .ls 1 (i + 3) 0 ps.length]
abbrev bookH (bs : List Int) (q : Nat) (W T : Int) (cs : List Bool) (ds ls : List Int) (ps : List (List Int)) : Heap :=
  [some (.box [.sl 0 1 (u8s bs), .v (.int .i64 q)]), some (.box [.v (.int .i64 0), .v (.int .i64 0), .os 1 [], .os 1 [], .os 1 [], .os 1 []]),
    some (.box (bkcs 3 W T cs ds ls ps)), some (.arr 1 (bools cs)), some (.arr 1 (ints ds)), some (.arr 1 (ints ls)), some (.arr 1 (oss ps))]
abbrev bookE (n : Int) (i : Int) : ES := [(0, .lp 0 0 0 0), (1, .v (.int .i64 n)), (4, .lp 0 1 0 0), (7, .lp 0 2 0 0), (8, .v (.int .i64 i)), (64, .lp 0 0 0 0)]

set_option maxHeartbeats 20000000 in
theorem book_L0 (bs : List Int) (p q : Nat) (n : Int) (m : Nat) (W T : Int) (cs : List Bool) (ds ls : List Int) (ps : List (List Int)) (hb : bs.length ≤ 2000) (hB : Byt bs) (hp : p < 2 ^ 34) (hm : m < 14) (hq : q ≤ p + 700) (hk : bookOk W T cs ds ls ps) (Qc : AExit → ES → Heap → Prop)
    (hend : ∀ (q2 : Nat) (W T : Int) (cs : List Bool) (ds ls : List Int) (ps : List (List Int)) (E : ES), q2 ≤ p + 850 → bookOk W T cs ds ls ps → get E 0 = .lp 0 0 0 0 → get E 1 = .v (.int .i64 n) → get E 4 = .lp 0 1 0 0 → get E 7 = .lp 0 2 0 0 → get E 64 = .lp 0 0 0 0 → Qc (.exit 0) E (bookH bs q2 W T cs ds ls ps)) :
    loopNode [] [0, 1, 4, 7, 8, 64] (awp Tryz.prog md8 c_spec_l20Book_L0) Qc (bookE n m) (bookH bs q W T cs ds ls ps) := by
  refine loop_by (fun b E H => ∃ (q2 : Nat) (W T : Int) (cs : List Bool) (ds ls : List Int) (ps : List (List Int)), b ≤ m ∧ q2 + b * 10 ≤ q + m * 10 ∧ bookOk W T cs ds ls ps ∧ E = bookE n b ∧ H = bookH bs q2 W T cs ds ls ps) m ⟨q, W, T, cs, ds, ls, ps, Nat.le_refl _, Nat.le_refl _, hk, rfl, rfl⟩ ?_
  rintro J hJ b E H ⟨q2, W, T, cs, ds, ls, ps, hbm, hq2, hk, rfl, rfl⟩
  by_cases h0 : b = 0
  · subst h0
    simp [c_spec_l20Book_L0]
    exact hend q2 W T cs ds ls ps _ (by omega) hk rfl rfl rfl rfl rfl
  obtain ⟨a1, a2, a3, a4, a5⟩ := bookOk_len hk
  have h0' : 0 < b := by omega
  have ded := s_spec_l20Deed bs q2 W T cs ds ls ps hb hB (by omega) (by omega) (by omega) (by omega)
  have nx : ∀ (q3 : Nat) (W2 T2 : Int) (cs2 : List Bool) (ds2 ls2 : List Int) (ps2 : List (List Int)), q3 ≤ q2 + 10 → bookOk W2 T2 cs2 ds2 ls2 ps2 → again J b (bookE n ((b : Int) - 1)) (bookH bs q3 W2 T2 cs2 ds2 ls2 ps2) := by
    intro q3 W2 T2 cs2 ds2 ls2 ps2 h1 h2
    refine ⟨b - 1, by omega, hJ _ _ _ ⟨q3, W2, T2, cs2, ds2, ls2, ps2, by omega, by omega, h2, ?_, rfl⟩⟩
    rw [show ((b - 1 : Nat) : Int) = (b : Int) - 1 by omega]
  simp [c_spec_l20Book_L0, h0']
  repeat' first
    | omega
    | apply And.intro
    | (refine call_onK ded [0] ?_ ?_ ?_ ?_
       · simp
       · simp
       · simp
       rintro _ _ ⟨k, s, w, q3, k0, k1, s0, s1, w0, w1, hq3, rfl, rfl⟩
       obtain ⟨d, W2, T2, cs2, ds2, l2, p2, hS, hk2⟩ := bdo W T cs ds ls ps k s w hk
       simp)
    | (refine call_on hS ?_
       cases d with
       | false =>
         simp
         exact ⟨by omega, nx q3 W T cs ds ls ps hq3 hk⟩
       | true =>
         simp
         exact ⟨by omega, nx q3 W2 T2 cs2 ds2 l2 p2 hq3 hk2⟩)
end Go.Proofs.Dev

namespace Go.Proofs.Dev
set_option linter.unusedSimpArgs false
set_option maxRecDepth 100000

theorem s_slices_Equal (xs ys : List Int) (ha : xs.length < 2 ^ 40) :
    SoundAt Tryz.prog n_slices_Equal_int_int [.sl 1 1 (ints xs), .sl 1 1 (ints ys)] (.v (.bool (decide (xs = ys)))) [.bot, .bot] := by
  refine fn_ok (md := md0) (ms := [false, false]) k_slices_Equal_int_int (by simp) ?_
  simp [c_slices_Equal_int_int]
  refine ⟨fun h => ?_, fun hl => ?_⟩
  · intro e; subst e; exact h rfl
  refine loop_by (fun m E H => ∃ i : Nat, m = xs.length - i ∧ i ≤ xs.length ∧ xs.take i = ys.take i ∧ H = [] ∧ E = [(0, .sl 1 1 (ints xs)), (1, .sl 1 1 (ints ys)), (12, .v (.int .i64 xs.length)), (13, .v (.int .i64 i))]) xs.length ⟨0, by simp⟩ ?_
  rintro J hJ m E H ⟨i, rfl, hi, he, rfl, rfl⟩
  by_cases h : i < xs.length
  case neg =>
    have h1 : i = xs.length := by omega
    subst h1
    have e : xs = ys := by
      rw [List.take_length] at he
      rw [he]; exact List.take_of_length_le (by omega)
    simp [c_slices_Equal_int_int_L0, e]
  have h2 : i < ys.length := by omega
  have key : (ati xs i = ati ys i) → xs.take (i + 1) = ys.take (i + 1) := by
    intro e
    rw [List.take_succ_eq_append_getElem h, List.take_succ_eq_append_getElem (by omega), he]
    simp [ati, h, h2] at e
    rw [e]
  have key2 : ¬ (ati xs i = ati ys i) → ¬ xs = ys := fun e e2 => e (by rw [e2])
  by_cases e : ati xs i = ati ys i
  · simp [c_slices_Equal_int_int_L0, h, h2, e]
    exact ⟨by omega, _, by omega, hJ _ _ _ ⟨i + 1, rfl, h, key e, rfl, rfl⟩⟩
  · simp [c_slices_Equal_int_int_L0, h, h2, e, key2 e]

abbrev cpH (W T : Int) (cs : List Bool) (ds ls : List Int) (qs : List (List Int)) : Heap :=
  [some (.box [.v (.int .i64 0), .v (.int .i64 0), .os 1 [], .os 1 [], .os 1 [], .os 1 []]), some (.box (bkcs 2 W T cs ds ls qs)),
    some (.arr 1 (bools cs)), some (.arr 1 (ints ds)), some (.arr 1 (ints ls)), some (.arr 1 (oss qs))]
def cpP (ps : List (List Int)) (i : Nat) : List (List Int) := ps.take i ++ List.replicate (ps.length - i) []
theorem cpP_length (ps : List (List Int)) {i : Nat} (h : i ≤ ps.length) : (cpP ps i).length = ps.length := by simp [cpP]; omega
theorem cpP_set (ps : List (List Int)) {i : Nat} (h : i < ps.length) : (oss (cpP ps i)).set i (.os 1 (ints (pti ps i))) = oss (cpP ps (i + 1)) := by
  unfold oss
  rw [← List.map_set]
  congr 1
  unfold cpP
  rw [List.set_append_right _ _ (by simp; omega), show i - (ps.take i).length = 0 by simp; omega, show ps.length - i = (ps.length - (i + 1)) + 1 by omega, List.replicate_succ, List.set_cons_zero,
    pti_get h]
  have e : ps.take (i + 1) = ps.take i ++ [ps[i]] := List.take_succ_eq_append_getElem h
  rw [e, List.append_assoc]; rfl

theorem cp_L0 (W T : Int) (cs : List Bool) (ds ls : List Int) (ps : List (List Int)) (hb : ps.length ≤ 100) (hp : ∀ p ∈ ps, p.length ≤ 100) (Qc : AExit → ES → Heap → Prop)
    (hend : ∀ E : ES, get E 2 = .lp 0 0 0 0 → get E 3 = .lp 0 1 0 0 → Qc (.exit 0) E (cpH W T cs ds ls ps)) :
    loopNode [(29, 1)] [2, 3, 29, 30, 31] (awp Tryz.prog mdo c_impl_Book_copyOf_L0) Qc [(2, .lp 0 0 0 0), (3, .lp 0 1 0 0), (29, .sl 1 1 (sls 1 ps)), (30, .v (.int .i64 ps.length)), (31, .v (.int .i64 0))] (cpH W T cs ds ls (cpP ps 0)) := by
  refine loop_by (fun m E H => ∃ i : Nat, m = ps.length - i ∧ i ≤ ps.length ∧ E = [(2, .lp 0 0 0 0), (3, .lp 0 1 0 0), (29, .sl 1 1 (sls 1 ps)), (30, .v (.int .i64 ps.length)), (31, .v (.int .i64 i))] ∧ H = cpH W T cs ds ls (cpP ps i)) ps.length ⟨0, by simp⟩ ?_
  rintro J hJ m E H ⟨i, rfl, hi, rfl, rfl⟩
  have hl := cpP_length ps hi
  by_cases h : i < ps.length
  case neg =>
    have h1 : i = ps.length := by omega
    subst h1
    have e : cpP ps ps.length = ps := by simp [cpP]
    simp [c_impl_Book_copyOf_L0]
    rw [e]
    exact hend _ rfl rfl
  have hpi : (pti ps i).length ≤ 100 := by rw [pti_get h]; exact hp _ (List.getElem_mem h)
  have hset := cpP_set ps h
  have hl2 := cpP_length ps (show i + 1 ≤ ps.length by omega)
  have nx := hJ (ps.length - (i + 1)) _ _ ⟨i + 1, rfl, h, rfl, rfl⟩
  simp only [cpH, bkcs, hl2, ← hset, Int.natCast_add, Int.natCast_one] at nx
  simp [c_impl_Book_copyOf_L0, h]
  (repeat' first | omega | apply And.intro) <;>
  · refine call_on (s_impl_clone_int (pti ps i) (by omega)) ?_
    simp [h, hl]
    exact ⟨by omega, _, by omega, nx⟩

set_option maxHeartbeats 8000000 in
theorem s_impl_Book_copyOf (W T : Int) (cs : List Bool) (ds ls : List Int) (ps : List (List Int)) (hc : cs.length ≤ 100) (hd : ds.length ≤ 100) (hl : ls.length ≤ 100) (hb : ps.length ≤ 100) (hp : ∀ p ∈ ps, p.length ≤ 100) :
    SoundAt Tryz.prog n_impl_Book_copyOf [bkA W T cs ds ls ps] (bkO W T cs ds ls ps) [.bot] := by
  refine fn_okB (md := mdo) (ms := [false]) k_impl_Book_copyOf (by simp) ?_
  have t1 : (ints ds).take ds.length = ints ds := take_ints_all ds
  have t2 : (ints ls).take ls.length = ints ls := take_ints_all ls
  have t3 : (oss ps).take ps.length = oss ps := List.take_of_length_le (by simp [oss])
  have e0 : List.replicate ps.length (AV.os 1 []) = oss (cpP ps 0) := by simp [cpP, oss]
  have hl0 : (cpP ps 0).length = ps.length := cpP_length ps (by omega)
  have lp := cp_L0 W T cs ds ls ps hb hp
  simp only [cpH, bkcs, hl0, ← e0] at lp
  simp [c_impl_Book_copyOf_E]
  refine frz_on rfl rfl rfl ?_
  simp
  (repeat' first | omega | apply And.intro) <;>
  · refine call_on (s_impl_clone_bool cs (by omega)) ?_
    simp
    (repeat' first | omega | apply And.intro) <;>
    · refine call_on (s_impl_clone_int ds (by omega)) ?_
      simp
      (repeat' first | omega | apply And.intro) <;>
      · refine call_on (s_impl_clone_int ls (by omega)) ?_
        simp [c_impl_Book_copyOf_T1]
        (repeat' first | omega | apply And.intro) <;>
        · refine lp _ ?_
          intro E e2 e3
          simp [e2, e3, t1, t2, t3]
end Go.Proofs.Dev

namespace Go.Proofs.Dev
set_option linter.unusedSimpArgs false
set_option maxRecDepth 100000

theorem next_lays {W T : Int} {cs : List Bool} {ds ls : List Int} {k s w : Int} (hf : fairB W T cs ds ls = true) (hk : k = 0 ∨ k = 1 ∨ k = 2 ∨ k = 3) : laysB W T cs (nextL W T cs ds ls k s w) = true := by
  obtain ⟨hr, hd, hy, ho⟩ := fair_parts hf
  unfold nextL
  split
  · unfold layOneL
    split
    · rename_i h; exact lay_ok hr hy h
    · exact hy
  split
  · split
    · rename_i h
      simp only [liftHas, decide_eq_true_eq] at h
      have := lift_ok (k := s.toNat) hr hy (by omega) (by rw [show ((s.toNat : Nat) : Int) = s by omega]; exact h.2.2)
      rw [show ((s.toNat : Nat) : Int) = s by omega] at this
      exact this
    · exact hy
  split
  · by_cases hfl : flipB W T ls s = true
    · exact (flip_ok hr hy hfl).2
    · have e : flipI W T ls s = ls := by simp [flipI, hfl]
      rw [e]; exact hy
  split
  · exact (fair_parts (forceAll_facts hf).1).2.2.1
  · omega

theorem s_impl_Book_do (W T : Int) (cs : List Bool) (ds ls : List Int) (ps : List (List Int)) (k s w : Int) (h : bookB W T cs ds ls ps = true) (hs : s ≤ 9223372036854775807) :
    SoundAt Tryz.prog n_impl_Book_do [boxO W T cs ds ls ps, deedV k s w] (.v (.bool (doI W T cs ds ls ps k s w).1)) [boxO W T cs ds (doI W T cs ds ls ps k s w).2.1 (doI W T cs ds ls ps k s w).2.2, .bot] := by
  obtain ⟨hf, h20, hpf⟩ := book_parts h
  obtain ⟨hr, hdg, hy, ho⟩ := fair_parts hf
  obtain ⟨l36, ld, ll⟩ := fair_len hf
  have hnl := nextL_length W T cs ds ls k s w
  unfold doI
  refine s_impl_do k_impl_Book_do W T cs ds ls (nextL W T cs ds ls k s w) ps k s w (needB (k, s, w)) (nextB W T cs ds ls k s w) (fairB W T cs ds (nextL W T cs ds ls k s w)) (by omega) (by omega) (by omega) (s_impl_Deed_needs (k, s, w)) ?_ ?_ (fun us h1 h2 => s_impl_clone_raw us h1 h2)
  · intro hn hk4
    have hk : k = 0 ∨ k = 1 ∨ k = 2 ∨ k = 3 := by have := needB_kind hn; omega
    have h0 := s_impl_LayOne W T cs ls s w (by omega) (by omega)
    have h1 := s_impl_LiftOne W T cs ls s (by omega) (by omega)
    have h2 := s_impl_Region_flip W T cs ls s hr ll hs
    have h3 := s_impl_Region_forceAll W T cs ds ls hf
    have h4 := s_slices_Equal (forceAllI W T cs ds ls) ls (by rw [forceAllI_length]; omega)
    have := s_impl_laidBy k_impl_Book_laidBy W T cs ds ls _ _ _ _ ps k s w _ _ _ _ h0 h1 h2 h3 h4
    have e : byRes k (layR W T cs ls s w) (liftR W T cs ls s) (flipI W T ls s) (forceAllI W T cs ds ls) (layRB W T cs ls s w) (liftRB W T cs ls s) (flipB W T ls s) (!decide (forceAllI W T cs ds ls = ls)) =
        (nextL W T cs ds ls k s w, nextB W T cs ds ls k s w) := by
      rcases hk with rfl | rfl | rfl | rfl
      · simp [byRes, nextL, nextB, layR, layRB, hr, hy]
      · simp [byRes, nextL, nextB, liftR, liftRB, hr, hy]
      · simp [byRes, nextL, nextB]
      · simp [byRes, nextL, nextB]
    rw [e] at this
    exact this
  · intro hn hk4
    have hk : k = 0 ∨ k = 1 ∨ k = 2 ∨ k = 3 := by have := needB_kind hn; omega
    have hy2 := next_lays (s := s) (w := w) hf hk
    have hok : okB W T cs ds (nextL W T cs ds ls k s w) = true := by simp [okB, hr, hdg, hy2]
    have e : fairB W T cs ds (nextL W T cs ds ls k s w) = onceB (pairsI W T ds (nextL W T cs ds ls k s w)) := by simp [fairB, hok]
    rw [e]
    exact s_impl_Region_fair W T cs ds _ hok

theorem s_impl_BookDoA (W T : Int) (cs : List Bool) (ds ls : List Int) (ps : List (List Int)) (k s w : Int) (hc : cs.length ≤ 2 ^ 30) (hd : ds.length ≤ 2 ^ 30) (hl : ls.length ≤ 2 ^ 30) (hb : ps.length ≤ 2 ^ 30) (hp : ∀ p ∈ ps, p.length ≤ 2 ^ 30) (hs : s ≤ 9223372036854775807) :
    SoundAt Tryz.prog n_impl_BookDo [bkA W T cs ds ls ps, deedV k s w]
      (.tup [if bookB W T cs ds ls ps = true then bkO W T cs ds (doI W T cs ds ls ps k s w).2.1 (doI W T cs ds ls ps k s w).2.2 else bkO 0 0 [] [] [] [], .v (.bool (bookB W T cs ds ls ps && (doI W T cs ds ls ps k s w).1))]) [.bot, .bot] := by
  refine s_impl_BookDo k_impl_BookDo W T cs ds ls ps k s w (bookB W T cs ds ls ps) (doI W T cs ds ls ps k s w).1 (doI W T cs ds ls ps k s w).2.1 (doI W T cs ds ls ps k s w).2.2
    (s_impl_BookValid W T cs ds ls ps (by omega) (by omega) (by omega) (by omega) (fun p h => by have := hp p h; omega)) ?_ ?_
  · intro h
    obtain ⟨hf, h20, hpf⟩ := book_parts h
    obtain ⟨l36, ld, ll⟩ := fair_len hf
    exact s_impl_Book_copyOf W T cs ds ls ps (by omega) (by omega) (by omega) (by omega) (fun p hp => by have := fair_len (hpf p hp); omega)
  · intro h
    exact s_impl_Book_do W T cs ds ls ps k s w h hs
end Go.Proofs.Dev

namespace Go.Proofs.Dev

end Go.Proofs.Dev

namespace Go.Proofs.Dev
set_option linter.unusedSimpArgs false
set_option maxRecDepth 100000

end Go.Proofs.Dev

namespace Go.Proofs.Dev
set_option linter.unusedSimpArgs false

end Go.Proofs.Dev

namespace Go.Proofs.Dev
set_option linter.unusedSimpArgs false
set_option maxRecDepth 100000

def liftD (ls ws : List Int) (k : Nat) : List (Int × Int × Int) := if (ati ls k = 1 ∨ ati ls k = 2) ∧ ati ws k ≠ ati ls k then [(1, (k : Int), 0)] else []
def layD (ls ws : List Int) (k : Nat) : List (Int × Int × Int) := if (ati ws k = 1 ∨ ati ws k = 2) ∧ ati ws k ≠ ati ls k then [(0, (k : Int), ati ws k)] else []
def liftsTo (ls ws : List Int) (n : Nat) : List (Int × Int × Int) := (List.range n).flatMap (liftD ls ws)
def laysTo (ls ws : List Int) (n : Nat) : List (Int × Int × Int) := (List.range n).flatMap (layD ls ws)
theorem liftsTo_succ (ls ws : List Int) (n : Nat) : liftsTo ls ws (n + 1) = liftsTo ls ws n ++ liftD ls ws n := by simp [liftsTo, List.range_succ]
theorem laysTo_succ (ls ws : List Int) (n : Nat) : laysTo ls ws (n + 1) = laysTo ls ws n ++ layD ls ws n := by simp [laysTo, List.range_succ]
theorem liftsTo_length (ls ws : List Int) : ∀ n, (liftsTo ls ws n).length ≤ n
  | 0 => by simp [liftsTo]
  | n + 1 => by
    have := liftsTo_length ls ws n
    rw [liftsTo_succ, List.length_append]
    have : (liftD ls ws n).length ≤ 1 := by unfold liftD; split <;> simp
    omega
theorem laysTo_length (ls ws : List Int) : ∀ n, (laysTo ls ws n).length ≤ n
  | 0 => by simp [laysTo]
  | n + 1 => by
    have := laysTo_length ls ws n
    rw [laysTo_succ, List.length_append]
    have : (layD ls ws n).length ≤ 1 := by unfold layD; split <;> simp
    omega
def endT (ls ws : List Int) : List (Int × Int × Int) := liftsTo ls ws ws.length ++ laysTo ls ws ws.length
def bareL (W T : Int) (cs : List Bool) : List Int := if regB W T cs then noneL cs else []
def endI (W T : Int) (cs : List Bool) (ds ls : List Int) (ps : List (List Int)) : List (Int × Int × Int) :=
  if (bookB W T cs ds ls ps && solB W T cs ds (bareL W T cs)) = true then endT ls (solL W T cs ds (bareL W T cs)) else []

theorem t_spec_EndDeeds (W T : Int) (cs : List Bool) (ds ls : List Int) (ps : List (List Int)) (ws : List Int) (sb : Bool) (hc : cs.length < 2 ^ 40) (hd : ds.length < 2 ^ 40) (hl : ls.length < 2 ^ 40) (hb : ps.length < 2 ^ 40) (hp : ∀ p ∈ ps, p.length < 2 ^ 40)
    (hws : bookB W T cs ds ls ps = true → sb = true → ls.length = ws.length ∧ ws.length ≤ 36) :
    awp Tryz.prog md3 c_spec_EndDeeds_T2 (Fin [RV.t 2] 105 1 [false] (AV.os 3 (dsA (if (bookB W T cs ds ls ps && sb) = true then endT ls ws else []))) [AV.bot])
      [(1, .lp 0 0 0 0), (3, .ls 3 1 0 0), (4, .sl 0 1 (ints ws)), (5, .v (.bool sb))]
      [some (.box [.v (.int .i64 W), .v (.int .i64 T), .sl 1 1 (bools cs), .sl 1 1 (ints ds), .sl 1 1 (ints ls), .sl 1 1 (sls 1 ps)]), some (.arr 3 [])] := by
  cases sb with
  | false => simp [c_spec_EndDeeds_T2]
  | true =>
  simp [c_spec_EndDeeds_T2]
  refine call_on (s_spec_BookValid W T cs ds ls ps hc hd hl hb hp) ?_
  cases hbk : bookB W T cs ds ls ps with
  | false => simp
  | true =>
  obtain ⟨e1, e2⟩ := hws hbk rfl
  simp
  refine loop_by (fun m E H => ∃ i : Nat, m = ws.length - i ∧ i ≤ ws.length ∧ H = [some (.box [.v (.int .i64 W), .v (.int .i64 T), .sl 1 1 (bools cs), .sl 1 1 (ints ds), .sl 1 1 (ints ls), .sl 1 1 (sls 1 ps)]), some (.arr 3 (dsA (liftsTo ls ws i)))] ∧
    E = [(1, .lp 0 0 0 0), (3, .ls 3 1 0 (liftsTo ls ws i).length), (4, .sl 0 1 (ints ws)), (6, .v (.int .i64 i))]) ws.length ⟨0, by simp [liftsTo]⟩ ?_
  rintro J hJ m E H ⟨i, rfl, hi, rfl, rfl⟩
  have hlen := liftsTo_length ls ws i
  have hsuc := liftsTo_succ ls ws i
  by_cases h : i < ws.length
  · have h2 : i < ls.length := by omega
    have nx1 : liftD ls ws i = [] → again J (ws.length - i) [(1, .lp 0 0 0 0), (3, .ls 3 1 0 (liftsTo ls ws i).length), (4, .sl 0 1 (ints ws)), (6, .v (.int .i64 (i + 1)))]
        [some (.box [.v (.int .i64 W), .v (.int .i64 T), .sl 1 1 (bools cs), .sl 1 1 (ints ds), .sl 1 1 (ints ls), .sl 1 1 (sls 1 ps)]), some (.arr 3 (dsA (liftsTo ls ws i)))] :=
      fun e => ⟨_, by omega, hJ _ _ _ ⟨i + 1, rfl, h, by rw [hsuc, e, List.append_nil], by rw [hsuc, e, List.append_nil]; rfl⟩⟩
    have nx2 : liftD ls ws i = [(1, (i : Int), 0)] → again J (ws.length - i) [(1, .lp 0 0 0 0), (3, .ls 3 1 0 ((liftsTo ls ws i).length + 1)), (4, .sl 0 1 (ints ws)), (6, .v (.int .i64 (i + 1)))]
        [some (.box [.v (.int .i64 W), .v (.int .i64 T), .sl 1 1 (bools cs), .sl 1 1 (ints ds), .sl 1 1 (ints ls), .sl 1 1 (sls 1 ps)]), some (.arr 3 (dsA (liftsTo ls ws i) ++ [.agg [.v (.int .i64 1), .v (.int .i64 i), .v (.int .i64 0)]]))] :=
      fun e => ⟨_, by omega, hJ _ _ _ ⟨i + 1, rfl, h, by rw [hsuc, e, dsA_append]; rfl, by rw [hsuc, e, List.length_append]; rfl⟩⟩
    have hio : i < 36 := by omega
    by_cases hw1 : ati ls i = 1
    · by_cases hw3 : ati ws i = 1
      · have nx := nx1 (by simp [liftD, hw1, hw3])
        simp [c_spec_EndDeeds_L0, h, h2, hw1, hw3]
        exact ⟨by omega, nx⟩
      · have nx := nx2 (by simp [liftD, hw1, hw3])
        simp [c_spec_EndDeeds_L0, h, h2, hw1, hw3]
        exact ⟨by omega, by omega, nx⟩
    · by_cases hw2 : ati ls i = 2
      · by_cases hw3 : ati ws i = 2
        · have nx := nx1 (by simp [liftD, hw2, hw3])
          simp [c_spec_EndDeeds_L0, h, h2, hw2, hw3]
          exact ⟨by omega, nx⟩
        · have nx := nx2 (by simp [liftD, hw2, hw3])
          simp [c_spec_EndDeeds_L0, h, h2, hw2, hw3]
          exact ⟨by omega, by omega, nx⟩
      · have nx := nx1 (by simp [liftD, hw1, hw2])
        simp [c_spec_EndDeeds_L0, h, h2, hw1, hw2]
        exact ⟨by omega, nx⟩
  · have : i = ws.length := by omega
    subst this
    simp [c_spec_EndDeeds_L0]
    clear hJ J
    have hL : (liftsTo ls ws ws.length).length ≤ 36 := by omega
    have hE : endT ls ws = liftsTo ls ws ws.length ++ laysTo ls ws ws.length := rfl
    rw [hE]
    generalize liftsTo ls ws ws.length = L at *
    refine loop_by (fun m E H => ∃ i : Nat, m = ws.length - i ∧ i ≤ ws.length ∧ H = [some (.box [.v (.int .i64 W), .v (.int .i64 T), .sl 1 1 (bools cs), .sl 1 1 (ints ds), .sl 1 1 (ints ls), .sl 1 1 (sls 1 ps)]), some (.arr 3 (dsA (L ++ laysTo ls ws i)))] ∧
      E = [(1, .lp 0 0 0 0), (3, .ls 3 1 0 (L ++ laysTo ls ws i).length), (4, .sl 0 1 (ints ws)), (7, .v (.int .i64 i))]) ws.length ⟨0, by simp [laysTo]⟩ ?_
    rintro J hJ m E H ⟨i, rfl, hi, rfl, rfl⟩
    have hlen : (L ++ laysTo ls ws i).length ≤ 36 + i := by
      have := laysTo_length ls ws i
      rw [List.length_append]; omega
    have hsuc : L ++ laysTo ls ws (i + 1) = (L ++ laysTo ls ws i) ++ layD ls ws i := by rw [laysTo_succ, List.append_assoc]
    by_cases h : i < ws.length
    case neg =>
      have : i = ws.length := by omega
      subst this
      simp only [c_spec_EndDeeds_L1]
      generalize L ++ laysTo ls ws ws.length = M at *
      simp
      exact List.take_of_length_le (by simp)
    have h2 : i < ls.length := by omega
    generalize L ++ laysTo ls ws i = M at *
    have nx1 : layD ls ws i = [] → again J (ws.length - i) [(1, .lp 0 0 0 0), (3, .ls 3 1 0 M.length), (4, .sl 0 1 (ints ws)), (7, .v (.int .i64 (i + 1)))]
        [some (.box [.v (.int .i64 W), .v (.int .i64 T), .sl 1 1 (bools cs), .sl 1 1 (ints ds), .sl 1 1 (ints ls), .sl 1 1 (sls 1 ps)]), some (.arr 3 (dsA (M)))] :=
      fun e => ⟨_, by omega, hJ _ _ _ ⟨i + 1, rfl, h, by rw [hsuc, e, List.append_nil], by rw [hsuc, e, List.append_nil]; rfl⟩⟩
    have nx2 : layD ls ws i = [(0, (i : Int), ati ws i)] → again J (ws.length - i) [(1, .lp 0 0 0 0), (3, .ls 3 1 0 (M.length + 1)), (4, .sl 0 1 (ints ws)), (7, .v (.int .i64 (i + 1)))]
        [some (.box [.v (.int .i64 W), .v (.int .i64 T), .sl 1 1 (bools cs), .sl 1 1 (ints ds), .sl 1 1 (ints ls), .sl 1 1 (sls 1 ps)]), some (.arr 3 (dsA (M) ++ [.agg [.v (.int .i64 0), .v (.int .i64 i), .v (.int .i64 (ati ws i))]]))] :=
      fun e => ⟨_, by omega, hJ _ _ _ ⟨i + 1, rfl, h, by rw [hsuc, e, dsA_append]; rfl, by rw [hsuc, e, List.length_append]; rfl⟩⟩
    have hio : i < 36 := by omega
    by_cases hw1 : ati ws i = 1
    · by_cases hw3 : ati ls i = 1
      · have nx := nx1 (by simp [layD, hw1, hw3])
        simp [c_spec_EndDeeds_L1, h, h2, hw1, hw3]
        exact ⟨by omega, nx⟩
      · have hw3' : ¬ (1 : Int) = ati ls i := fun e => hw3 e.symm
        have nx := nx2 (by simp [layD, hw1, hw3'])
        rw [hw1] at nx
        simp [c_spec_EndDeeds_L1, h, h2, hw1, hw3, hw3']
        exact ⟨by omega, by omega, nx⟩
    · by_cases hw2 : ati ws i = 2
      · by_cases hw3 : ati ls i = 2
        · have nx := nx1 (by simp [layD, hw2, hw3])
          simp [c_spec_EndDeeds_L1, h, h2, hw2, hw3]
          exact ⟨by omega, nx⟩
        · have hw3' : ¬ (2 : Int) = ati ls i := fun e => hw3 e.symm
          have nx := nx2 (by simp [layD, hw2, hw3'])
          rw [hw2] at nx
          simp [c_spec_EndDeeds_L1, h, h2, hw2, hw3, hw3']
          exact ⟨by omega, by omega, nx⟩
      · have nx := nx1 (by simp [layD, hw1, hw2])
        simp [c_spec_EndDeeds_L1, h, h2, hw1, hw2]
        exact ⟨by omega, nx⟩

theorem end_len {W T : Int} {cs : List Bool} {ds ls : List Int} {ps : List (List Int)} {b : List Int} (h1 : bookB W T cs ds ls ps = true) (h2 : solB W T cs ds b = true) :
    ls.length = (solL W T cs ds b).length ∧ (solL W T cs ds b).length ≤ 36 ∧ ds.length = cs.length := by
  have hok := okB_W (fairB_ok (bookB_fair h1))
  unfold solB at h2
  unfold solL
  cases hf : firstHas W T cs ds b with
  | none => rw [hf] at h2; cases h2
  | some x =>
    have e := (firstHas_some hf).2
    have := regB_len hok.1
    simp only [Option.getD_some]
    exact ⟨by omega, by omega, hok.2.1⟩

theorem s_spec_EndDeeds (W T : Int) (cs : List Bool) (ds ls : List Int) (ps : List (List Int)) (hc : cs.length < 2 ^ 40) (hd : ds.length < 2 ^ 40) (hl : ls.length < 2 ^ 40) (hb : ps.length < 2 ^ 40) (hp : ∀ p ∈ ps, p.length < 2 ^ 40) :
    SoundAt Tryz.prog n_spec_EndDeeds [bkA W T cs ds ls ps] (.os 3 (dsA (endI W T cs ds ls ps))) [.bot] := by
  have tl := t_spec_EndDeeds W T cs ds ls ps (solL W T cs ds (bareL W T cs)) (solB W T cs ds (bareL W T cs)) hc hd hl hb hp (fun h1 h2 => ⟨(end_len h1 h2).1, (end_len h1 h2).2.1⟩)
  refine fn_ok (md := md3) (ms := [false]) k_spec_EndDeeds (by simp) ?_
  simp [c_spec_EndDeeds]
  (repeat' first | apply And.intro) <;>
  · refine call_on (s_spec_LaidBare W T cs hc) ?_
    simp
    have hbl : (if regB W T cs = true then noneL cs else []).length < 2 ^ 40 := by split <;> simp [noneL] <;> omega
    (repeat' first | apply And.intro) <;>
    · refine call_on (s_spec_SolveFirstU W T cs ds _ hc hd hbl) ?_
      simp
      exact tl

end Go.Proofs.Dev

namespace Go.Proofs.Dev
set_option linter.unusedSimpArgs false
set_option maxRecDepth 100000

end Go.Proofs.Dev
