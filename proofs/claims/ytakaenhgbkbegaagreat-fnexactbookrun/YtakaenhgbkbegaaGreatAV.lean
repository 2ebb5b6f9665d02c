/- Contracts of the functions of the program over slots and rows, each proved against the program itself; no condition beyond those that each theorem names. -/
import Derived.Test.YtakaenhgbkbegaaGreatAU
import Derived.Test.YtakaenhgbkbegaaGreatAT
import Derived.Test.YtakaenhgbkbegaaGreatProg
import Derived.Test.YtakaenhgbkbegaaGreatAQ
import Derived.Test.YtakaenhgbkbegaaGreatAM
import Derived.Test.YtakaenhgbkbegaaGreatAP

set_option linter.unusedSimpArgs false
set_option linter.unusedVariables false

namespace Go.Proofs.Dev
set_option linter.unusedSimpArgs false
set_option maxRecDepth 100000

/-- A book is as it was drawn. -/
def bookSet (bs : List Int) (p d : Nat) (r : AV) (ups : List AV) : Prop := ∃ (W T : Int) (cs : List Bool) (ds ls : List Int) (ps : List (List Int)) (q : Nat), cs.length ≤ 37 ∧ ds.length ≤ 38 ∧ ls.length ≤ 38 ∧ ps.length ≤ 21 ∧ (∀ x ∈ ps, x.length ≤ 37) ∧ q ≤ p + d ∧
  r = bkO W T cs ds ls ps ∧ ups = [rdA bs q, .bot]

/-- Valid, or none at all. -/
def bookOk (W T : Int) (cs : List Bool) (ds ls : List Int) (ps : List (List Int)) : Prop := bookB W T cs ds ls ps = true ∨ (cs = [] ∧ ds = [] ∧ ls = [] ∧ ps = [])

theorem bookOk_len {W T : Int} {cs : List Bool} {ds ls : List Int} {ps : List (List Int)} (h : bookOk W T cs ds ls ps) : cs.length ≤ 36 ∧ ds.length ≤ 36 ∧ ls.length ≤ 36 ∧ ps.length ≤ 20 ∧ ∀ x ∈ ps, x.length ≤ 36 := by
  rcases h with h | ⟨rfl, rfl, rfl, rfl⟩
  · obtain ⟨h1, h2, h3⟩ := book_parts h
    obtain ⟨a1, a2, a3⟩ := fair_len h1
    refine ⟨a1, by omega, by omega, h2, fun x hx => ?_⟩
    have := fair_len (h3 x hx)
    omega
  · simp

theorem bare_lays {W T : Int} {cs : List Bool} : laysB W T cs (noneL cs) = true := by
  simp only [laysB, Bool.and_eq_true, decide_eq_true_eq, allB_iff]
  refine ⟨by simp [noneL], fun k hk => ?_⟩
  have : ati (noneL cs) k = 0 := by
    simp only [noneL, List.length_replicate] at hk
    simp [ati, noneL, hk]
  simp [layAt, this]
theorem none_ati (cs : List Bool) (k : Nat) : ati (noneL cs) k = 0 := by
  simp only [ati, noneL, Int.toNat_natCast, List.getD_eq_getElem?_getD]
  by_cases h : k < cs.length
  · simp [h]
  · simp [h]
theorem bare_fair {W T : Int} {cs : List Bool} {ds : List Int} (hr : regB W T cs = true) (hd : digsB cs ds = true) : fairB W T cs ds (noneL cs) = true := by
  refine fair_of hr hd bare_lays ?_
  have : pairsI W T ds (noneL cs) = [] := by
    simp [pairsI, pairsTo, none_ati]
  rw [this]; rfl

theorem new_ok (W T : Int) (cs : List Bool) (ds : List Int) : ∃ (W2 T2 : Int) (cs2 : List Bool) (ds2 ls2 : List Int), newB W T cs ds = bkO W2 T2 cs2 ds2 ls2 [] ∧ bookOk W2 T2 cs2 ds2 ls2 [] := by
  unfold newB
  split
  · rename_i h
    simp only [Bool.and_eq_true] at h
    exact ⟨W, T, cs, ds, noneL cs, rfl, .inl (book_of (bare_fair h.1 h.2) (by simp) (by simp))⟩
  · exact ⟨0, 0, [], [], [], rfl, .inr ⟨rfl, rfl, rfl, rfl⟩⟩

/-- What is laid after a deed is fair, and so is what is past. -/
theorem do_ok {W T : Int} {cs : List Bool} {ds ls : List Int} {ps : List (List Int)} (k s w : Int) (h : bookB W T cs ds ls ps = true) : bookB W T cs ds (doI W T cs ds ls ps k s w).2.1 (doI W T cs ds ls ps k s w).2.2 = true := by
  obtain ⟨h1, h2, h3⟩ := book_parts h
  unfold doI doRes
  split
  · exact h
  split
  · rcases List.eq_nil_or_concat ps with rfl | ⟨qs, q, hq⟩
    · exact h
    · rw [List.concat_eq_append] at hq
      subst hq
      simp only [List.getLast?_append, List.getLast?_singleton, Option.some_or, List.dropLast_concat]
      simp at h2
      exact book_of (h3 q (by simp)) (by omega) (fun p hp => h3 p (by simp [hp]))
  split
  · rename_i hb
    simp only [Bool.and_eq_true] at hb
    refine book_of hb.2 ?_ ?_
    · simp [bkPast]; omega
    · intro p hp
      have := List.mem_of_mem_drop hp
      simp at this
      rcases this with h4 | rfl
      · exact h3 p h4
      · exact h1
  · exact h

theorem bdo (W T : Int) (cs : List Bool) (ds ls : List Int) (ps : List (List Int)) (k s w : Int) (hk : bookOk W T cs ds ls ps) :
    ∃ (d : Bool) (W2 T2 : Int) (cs2 : List Bool) (ds2 ls2 : List Int) (ps2 : List (List Int)), SoundAt Tryz.prog n_spec_BookDo [bkA W T cs ds ls ps, deedV k s w] (.tup [bkO W2 T2 cs2 ds2 ls2 ps2, .v (.bool d)]) [.bot, .bot] ∧ bookOk W2 T2 cs2 ds2 ls2 ps2 := by
  obtain ⟨a1, a2, a3, a4, a5⟩ := bookOk_len hk
  have := s_spec_BookDo W T cs ds ls ps k s w (by omega) (by omega) (by omega) (by omega) (fun p hp => by have := a5 p hp; omega)
  cases hb : bookB W T cs ds ls ps with
  | true =>
    rw [hb] at this
    simp only [if_true] at this
    exact ⟨_, _, _, _, _, _, _, this, .inl (do_ok k s w hb)⟩
  | false =>
    rw [hb] at this
    exact ⟨_, _, _, _, _, _, _, this, .inr ⟨rfl, rfl, rfl, rfl⟩⟩

abbrev bkcs (i : Nat) (W T : Int) (cs : List Bool) (ds ls : List Int) (ps : List (List Int)) : List AV := [.v (.int .i64 W), .v (.int .i64 T), .ls 1 i 0 cs.length, .ls 1 (i + 1) 0 ds.length, .ls 1 (i + 2) 0 ls.length, .ls 1 (i + 3) 0 ps.length]
abbrev bookH (bs : List Int) (q : Nat) (W T : Int) (cs : List Bool) (ds ls : List Int) (ps : List (List Int)) : Heap :=
  [some (.box [.sl 0 1 (u8s bs), .v (.int .i64 q)]), some (.box [.v (.int .i64 0), .v (.int .i64 0), .os 1 [], .os 1 [], .os 1 [], .os 1 []]),
    some (.box (bkcs 3 W T cs ds ls ps)), some (.arr 1 (bools cs)), some (.arr 1 (ints ds)), some (.arr 1 (ints ls)), some (.arr 1 (oss ps))]
abbrev bookE (n : Int) (i : Int) : ES := [(0, .lp 0 0 0 0), (1, .v (.int .i64 n)), (4, .lp 0 1 0 0), (7, .lp 0 2 0 0), (8, .v (.int .i64 i)), (64, .lp 0 0 0 0)]

set_option maxHeartbeats 20000000 in
theorem book_L0 (bs : List Int) (p q : Nat) (n : Int) (m : Nat) (W T : Int) (cs : List Bool) (ds ls : List Int) (ps : List (List Int)) (hb : bs.length ≤ 2000) (hB : Byt bs) (hp : p < 2 ^ 34) (hm : m < 14) (hq : q ≤ p + 700) (hk : bookOk W T cs ds ls ps) (Qc : AExit → ES → Heap → Prop)
    (hend : ∀ (q2 : Nat) (W T : Int) (cs : List Bool) (ds ls : List Int) (ps : List (List Int)) (E : ES), q2 ≤ p + 850 → bookOk W T cs ds ls ps → get E 0 = .lp 0 0 0 0 → get E 1 = .v (.int .i64 n) → get E 4 = .lp 0 1 0 0 → get E 7 = .lp 0 2 0 0 → get E 64 = .lp 0 0 0 0 → Qc (.exit 0) E (bookH bs q2 W T cs ds ls ps)) :
    loopNode [] [0, 1, 4, 7, 8, 64] (awp Tryz.prog md8 c_spec_l20Book_L0) Qc (bookE n m) (bookH bs q W T cs ds ls ps) := by
  refine loop_by (fun b E H => ∃ (q2 : Nat) (W T : Int) (cs : List Bool) (ds ls : List Int) (ps : List (List Int)), b ≤ m ∧ q2 + b * 10 ≤ q + m * 10 ∧ bookOk W T cs ds ls ps ∧ E = bookE n b ∧ H = bookH bs q2 W T cs ds ls ps) m ⟨q, W, T, cs, ds, ls, ps, Nat.le_refl _, Nat.le_refl _, hk, rfl, rfl⟩ ?_
  rintro J hJ b E H ⟨q2, W, T, cs, ds, ls, ps, hbm, hq2, hk, rfl, rfl⟩
  by_cases h0 : b = 0
  · subst h0
    simp [c_spec_l20Book_L0]
    exact hend q2 W T cs ds ls ps _ (by omega) hk rfl rfl rfl rfl rfl
  obtain ⟨a1, a2, a3, a4, a5⟩ := bookOk_len hk
  have h0' : 0 < b := by omega
  have ded := s_spec_l20Deed bs q2 W T cs ds ls ps hb hB (by omega) (by omega) (by omega) (by omega)
  have nx : ∀ (q3 : Nat) (W2 T2 : Int) (cs2 : List Bool) (ds2 ls2 : List Int) (ps2 : List (List Int)), q3 ≤ q2 + 10 → bookOk W2 T2 cs2 ds2 ls2 ps2 → again J b (bookE n ((b : Int) - 1)) (bookH bs q3 W2 T2 cs2 ds2 ls2 ps2) := by
    intro q3 W2 T2 cs2 ds2 ls2 ps2 h1 h2
    refine ⟨b - 1, by omega, hJ _ _ _ ⟨q3, W2, T2, cs2, ds2, ls2, ps2, by omega, by omega, h2, ?_, rfl⟩⟩
    rw [show ((b - 1 : Nat) : Int) = (b : Int) - 1 by omega]
  simp [c_spec_l20Book_L0, h0']
  repeat' first
    | omega
    | apply And.intro
    | (refine call_onK ded [0] ?_ ?_ ?_ ?_
       · simp
       · simp
       · simp
       rintro _ _ ⟨k, s, w, q3, k0, k1, s0, s1, w0, w1, hq3, rfl, rfl⟩
       obtain ⟨d, W2, T2, cs2, ds2, l2, p2, hS, hk2⟩ := bdo W T cs ds ls ps k s w hk
       simp)
    | (refine call_on hS ?_
       cases d with
       | false =>
         simp
         exact ⟨by omega, nx q3 W T cs ds ls ps hq3 hk⟩
       | true =>
         simp
         exact ⟨by omega, nx q3 W2 T2 cs2 ds2 l2 p2 hq3 hk2⟩)
end Go.Proofs.Dev

namespace Go.Proofs.Dev
set_option linter.unusedSimpArgs false
set_option maxRecDepth 100000

theorem s_slices_Equal (xs ys : List Int) (ha : xs.length < 2 ^ 40) :
    SoundAt Tryz.prog n_slices_Equal_int_int [.sl 1 1 (ints xs), .sl 1 1 (ints ys)] (.v (.bool (decide (xs = ys)))) [.bot, .bot] := by
  refine fn_ok (md := md0) (ms := [false, false]) k_slices_Equal_int_int (by simp) ?_
  simp [c_slices_Equal_int_int]
  refine ⟨fun h => ?_, fun hl => ?_⟩
  · intro e; subst e; exact h rfl
  refine loop_by (fun m E H => ∃ i : Nat, m = xs.length - i ∧ i ≤ xs.length ∧ xs.take i = ys.take i ∧ H = [] ∧ E = [(0, .sl 1 1 (ints xs)), (1, .sl 1 1 (ints ys)), (12, .v (.int .i64 xs.length)), (13, .v (.int .i64 i))]) xs.length ⟨0, by simp⟩ ?_
  rintro J hJ m E H ⟨i, rfl, hi, he, rfl, rfl⟩
  by_cases h : i < xs.length
  case neg =>
    have h1 : i = xs.length := by omega
    subst h1
    have e : xs = ys := by
      rw [List.take_length] at he
      rw [he]; exact List.take_of_length_le (by omega)
    simp [c_slices_Equal_int_int_L0, e]
  have h2 : i < ys.length := by omega
  have key : (ati xs i = ati ys i) → xs.take (i + 1) = ys.take (i + 1) := by
    intro e
    rw [List.take_succ_eq_append_getElem h, List.take_succ_eq_append_getElem (by omega), he]
    simp [ati, h, h2] at e
    rw [e]
  have key2 : ¬ (ati xs i = ati ys i) → ¬ xs = ys := fun e e2 => e (by rw [e2])
  by_cases e : ati xs i = ati ys i
  · simp [c_slices_Equal_int_int_L0, h, h2, e]
    exact ⟨by omega, _, by omega, hJ _ _ _ ⟨i + 1, rfl, h, key e, rfl, rfl⟩⟩
  · simp [c_slices_Equal_int_int_L0, h, h2, e, key2 e]

abbrev cpH (W T : Int) (cs : List Bool) (ds ls : List Int) (qs : List (List Int)) : Heap :=
  [some (.box [.v (.int .i64 0), .v (.int .i64 0), .os 1 [], .os 1 [], .os 1 [], .os 1 []]), some (.box (bkcs 2 W T cs ds ls qs)),
    some (.arr 1 (bools cs)), some (.arr 1 (ints ds)), some (.arr 1 (ints ls)), some (.arr 1 (oss qs))]
def cpP (ps : List (List Int)) (i : Nat) : List (List Int) := ps.take i ++ List.replicate (ps.length - i) []
theorem cpP_length (ps : List (List Int)) {i : Nat} (h : i ≤ ps.length) : (cpP ps i).length = ps.length := by simp [cpP]; omega
theorem cpP_set (ps : List (List Int)) {i : Nat} (h : i < ps.length) : (oss (cpP ps i)).set i (.os 1 (ints (pti ps i))) = oss (cpP ps (i + 1)) := by
  unfold oss
  rw [← List.map_set]
  congr 1
  unfold cpP
  rw [List.set_append_right _ _ (by simp; omega), show i - (ps.take i).length = 0 by simp; omega, show ps.length - i = (ps.length - (i + 1)) + 1 by omega, List.replicate_succ, List.set_cons_zero,
    pti_get h]
  have e : ps.take (i + 1) = ps.take i ++ [ps[i]] := List.take_succ_eq_append_getElem h
  rw [e, List.append_assoc]; rfl

theorem cp_L0 (W T : Int) (cs : List Bool) (ds ls : List Int) (ps : List (List Int)) (hb : ps.length ≤ 100) (hp : ∀ p ∈ ps, p.length ≤ 100) (Qc : AExit → ES → Heap → Prop)
    (hend : ∀ E : ES, get E 2 = .lp 0 0 0 0 → get E 3 = .lp 0 1 0 0 → Qc (.exit 0) E (cpH W T cs ds ls ps)) :
    loopNode [(29, 1)] [2, 3, 29, 30, 31] (awp Tryz.prog mdo c_impl_Book_copyOf_L0) Qc [(2, .lp 0 0 0 0), (3, .lp 0 1 0 0), (29, .sl 1 1 (sls 1 ps)), (30, .v (.int .i64 ps.length)), (31, .v (.int .i64 0))] (cpH W T cs ds ls (cpP ps 0)) := by
  refine loop_by (fun m E H => ∃ i : Nat, m = ps.length - i ∧ i ≤ ps.length ∧ E = [(2, .lp 0 0 0 0), (3, .lp 0 1 0 0), (29, .sl 1 1 (sls 1 ps)), (30, .v (.int .i64 ps.length)), (31, .v (.int .i64 i))] ∧ H = cpH W T cs ds ls (cpP ps i)) ps.length ⟨0, by simp⟩ ?_
  rintro J hJ m E H ⟨i, rfl, hi, rfl, rfl⟩
  have hl := cpP_length ps hi
  by_cases h : i < ps.length
  case neg =>
    have h1 : i = ps.length := by omega
    subst h1
    have e : cpP ps ps.length = ps := by simp [cpP]
    simp [c_impl_Book_copyOf_L0]
    rw [e]
    exact hend _ rfl rfl
  have hpi : (pti ps i).length ≤ 100 := by rw [pti_get h]; exact hp _ (List.getElem_mem h)
  have hset := cpP_set ps h
  have hl2 := cpP_length ps (show i + 1 ≤ ps.length by omega)
  have nx := hJ (ps.length - (i + 1)) _ _ ⟨i + 1, rfl, h, rfl, rfl⟩
  simp only [cpH, bkcs, hl2, ← hset, Int.natCast_add, Int.natCast_one] at nx
  simp [c_impl_Book_copyOf_L0, h]
  (repeat' first | omega | apply And.intro) <;>
  · refine call_on (s_impl_clone_int (pti ps i) (by omega)) ?_
    simp [h, hl]
    exact ⟨by omega, _, by omega, nx⟩

set_option maxHeartbeats 8000000 in
theorem s_impl_Book_copyOf (W T : Int) (cs : List Bool) (ds ls : List Int) (ps : List (List Int)) (hc : cs.length ≤ 100) (hd : ds.length ≤ 100) (hl : ls.length ≤ 100) (hb : ps.length ≤ 100) (hp : ∀ p ∈ ps, p.length ≤ 100) :
    SoundAt Tryz.prog n_impl_Book_copyOf [bkA W T cs ds ls ps] (bkO W T cs ds ls ps) [.bot] := by
  refine fn_okB (md := mdo) (ms := [false]) k_impl_Book_copyOf (by simp) ?_
  have t1 : (ints ds).take ds.length = ints ds := take_ints_all ds
  have t2 : (ints ls).take ls.length = ints ls := take_ints_all ls
  have t3 : (oss ps).take ps.length = oss ps := List.take_of_length_le (by simp [oss])
  have e0 : List.replicate ps.length (AV.os 1 []) = oss (cpP ps 0) := by simp [cpP, oss]
  have hl0 : (cpP ps 0).length = ps.length := cpP_length ps (by omega)
  have lp := cp_L0 W T cs ds ls ps hb hp
  simp only [cpH, bkcs, hl0, ← e0] at lp
  simp [c_impl_Book_copyOf_E]
  refine frz_on rfl rfl rfl ?_
  simp
  (repeat' first | omega | apply And.intro) <;>
  · refine call_on (s_impl_clone_bool cs (by omega)) ?_
    simp
    (repeat' first | omega | apply And.intro) <;>
    · refine call_on (s_impl_clone_int ds (by omega)) ?_
      simp
      (repeat' first | omega | apply And.intro) <;>
      · refine call_on (s_impl_clone_int ls (by omega)) ?_
        simp [c_impl_Book_copyOf_T1]
        (repeat' first | omega | apply And.intro) <;>
        · refine lp _ ?_
          intro E e2 e3
          simp [e2, e3, t1, t2, t3]
end Go.Proofs.Dev

namespace Go.Proofs.Dev
set_option linter.unusedSimpArgs false
set_option maxRecDepth 100000

theorem next_lays {W T : Int} {cs : List Bool} {ds ls : List Int} {k s w : Int} (hf : fairB W T cs ds ls = true) (hk : k = 0 ∨ k = 1 ∨ k = 2 ∨ k = 3) : laysB W T cs (nextL W T cs ds ls k s w) = true := by
  obtain ⟨hr, hd, hy, ho⟩ := fair_parts hf
  unfold nextL
  split
  · unfold layOneL
    split
    · rename_i h; exact lay_ok hr hy h
    · exact hy
  split
  · split
    · rename_i h
      simp only [liftHas, decide_eq_true_eq] at h
      have := lift_ok (k := s.toNat) hr hy (by omega) (by rw [show ((s.toNat : Nat) : Int) = s by omega]; exact h.2.2)
      rw [show ((s.toNat : Nat) : Int) = s by omega] at this
      exact this
    · exact hy
  split
  · by_cases hfl : flipB W T ls s = true
    · exact (flip_ok hr hy hfl).2
    · have e : flipI W T ls s = ls := by simp [flipI, hfl]
      rw [e]; exact hy
  split
  · exact (fair_parts (forceAll_facts hf).1).2.2.1
  · omega

theorem s_impl_Book_do (W T : Int) (cs : List Bool) (ds ls : List Int) (ps : List (List Int)) (k s w : Int) (h : bookB W T cs ds ls ps = true) (hs : s ≤ 9223372036854775807) :
    SoundAt Tryz.prog n_impl_Book_do [boxO W T cs ds ls ps, deedV k s w] (.v (.bool (doI W T cs ds ls ps k s w).1)) [boxO W T cs ds (doI W T cs ds ls ps k s w).2.1 (doI W T cs ds ls ps k s w).2.2, .bot] := by
  obtain ⟨hf, h20, hpf⟩ := book_parts h
  obtain ⟨hr, hdg, hy, ho⟩ := fair_parts hf
  obtain ⟨l36, ld, ll⟩ := fair_len hf
  have hnl := nextL_length W T cs ds ls k s w
  unfold doI
  refine s_impl_do k_impl_Book_do W T cs ds ls (nextL W T cs ds ls k s w) ps k s w (needB (k, s, w)) (nextB W T cs ds ls k s w) (fairB W T cs ds (nextL W T cs ds ls k s w)) (by omega) (by omega) (by omega) (s_impl_Deed_needs (k, s, w)) ?_ ?_ (fun us h1 h2 => s_impl_clone_raw us h1 h2)
  · intro hn hk4
    have hk : k = 0 ∨ k = 1 ∨ k = 2 ∨ k = 3 := by have := needB_kind hn; omega
    have h0 := s_impl_LayOne W T cs ls s w (by omega) (by omega)
    have h1 := s_impl_LiftOne W T cs ls s (by omega) (by omega)
    have h2 := s_impl_Region_flip W T cs ls s hr ll hs
    have h3 := s_impl_Region_forceAll W T cs ds ls hf
    have h4 := s_slices_Equal (forceAllI W T cs ds ls) ls (by rw [forceAllI_length]; omega)
    have := s_impl_laidBy k_impl_Book_laidBy W T cs ds ls _ _ _ _ ps k s w _ _ _ _ h0 h1 h2 h3 h4
    have e : byRes k (layR W T cs ls s w) (liftR W T cs ls s) (flipI W T ls s) (forceAllI W T cs ds ls) (layRB W T cs ls s w) (liftRB W T cs ls s) (flipB W T ls s) (!decide (forceAllI W T cs ds ls = ls)) =
        (nextL W T cs ds ls k s w, nextB W T cs ds ls k s w) := by
      rcases hk with rfl | rfl | rfl | rfl
      · simp [byRes, nextL, nextB, layR, layRB, hr, hy]
      · simp [byRes, nextL, nextB, liftR, liftRB, hr, hy]
      · simp [byRes, nextL, nextB]
      · simp [byRes, nextL, nextB]
    rw [e] at this
    exact this
  · intro hn hk4
    have hk : k = 0 ∨ k = 1 ∨ k = 2 ∨ k = 3 := by have := needB_kind hn; omega
    have hy2 := next_lays (s := s) (w := w) hf hk
    have hok : okB W T cs ds (nextL W T cs ds ls k s w) = true := by simp [okB, hr, hdg, hy2]
    have e : fairB W T cs ds (nextL W T cs ds ls k s w) = onceB (pairsI W T ds (nextL W T cs ds ls k s w)) := by simp [fairB, hok]
    rw [e]
    exact s_impl_Region_fair W T cs ds _ hok

theorem s_impl_BookDoA (W T : Int) (cs : List Bool) (ds ls : List Int) (ps : List (List Int)) (k s w : Int) (hc : cs.length ≤ 2 ^ 30) (hd : ds.length ≤ 2 ^ 30) (hl : ls.length ≤ 2 ^ 30) (hb : ps.length ≤ 2 ^ 30) (hp : ∀ p ∈ ps, p.length ≤ 2 ^ 30) (hs : s ≤ 9223372036854775807) :
    SoundAt Tryz.prog n_impl_BookDo [bkA W T cs ds ls ps, deedV k s w]
      (.tup [if bookB W T cs ds ls ps = true then bkO W T cs ds (doI W T cs ds ls ps k s w).2.1 (doI W T cs ds ls ps k s w).2.2 else bkO 0 0 [] [] [] [], .v (.bool (bookB W T cs ds ls ps && (doI W T cs ds ls ps k s w).1))]) [.bot, .bot] := by
  refine s_impl_BookDo k_impl_BookDo W T cs ds ls ps k s w (bookB W T cs ds ls ps) (doI W T cs ds ls ps k s w).1 (doI W T cs ds ls ps k s w).2.1 (doI W T cs ds ls ps k s w).2.2
    (s_impl_BookValid W T cs ds ls ps (by omega) (by omega) (by omega) (by omega) (fun p h => by have := hp p h; omega)) ?_ ?_
  · intro h
    obtain ⟨hf, h20, hpf⟩ := book_parts h
    obtain ⟨l36, ld, ll⟩ := fair_len hf
    exact s_impl_Book_copyOf W T cs ds ls ps (by omega) (by omega) (by omega) (by omega) (fun p hp => by have := fair_len (hpf p hp); omega)
  · intro h
    exact s_impl_Book_do W T cs ds ls ps k s w h hs
end Go.Proofs.Dev

namespace Go.Proofs.Dev

-- 2 parameters, results [.t 4], 26 slots, modes [false, false]
@[simp] abbrev n_laws_sameBools : Nat := 103
def c_laws_sameBools_L0 : ACode := .seq (.seq (.reg [.m 11 5, .m 12 0, .n 13 12, .o 14 (.bin .lss 0) [.t 11, .t 13]]) <| .cond (.t 14) ( .skip) ( .exit 0)) <|
 .seq (.block 1 ( .seq (.draw ( .take (.m 17 0) <| .take (.m 18 5) <| .take (.o 19 (.iadr 1) [.t 17, .t 18]) <| .take (.m 21 1) <| .take (.m 22 5) <|
 .take (.o 23 (.iadr 1) [.t 21, .t 22]) <| .alt (.l 20 19) ( .al (.l 24 23) ( .take (.o 25 (.bin .neq 2) [.t 20, .t 24]) <| .done)) <|
 .al (.l 24 23) ( .al (.l 20 19) ( .take (.o 25 (.bin .neq 2) [.t 20, .t 24]) <| .done)))) <| .cond (.t 25) ( .seq (.reg [.o 4 .mv [.kb false]]) <|
 .ret) ( .skip))) <| .reg [.m 15 5, .o 16 (.bin .add 0) [.t 15, .k 1], .m 5 16]

def c_laws_sameBools : ACode := .seq (.reg [.o 4 .mv [.kb false]]) <| .seq (.seq (.reg [.m 6 0, .n 7 6, .m 8 1, .n 9 8, .o 10 (.bin .neq 0) [.t 7, .t 9]]) <|
 .cond (.t 10) ( .seq (.reg [.o 4 .mv [.kb false]]) <| .ret) ( .skip)) <| .seq (.seq (.reg [.o 5 .mv [.k 0]]) <| .block 0 ( .loop [(0, 1), (1, 1)] [0, 1,
 5] c_laws_sameBools_L0)) <| .seq (.reg [.o 4 .mv [.kb true]]) <| .ret

theorem k_laws_sameBools : cFn Tryz.prog n_laws_sameBools 26 [.t 4] c_laws_sameBools := ⟨Tryz.f103, _, Tryz.func103, rfl, by kernel_rfl, by kernel_rfl, by kernel_rfl, by kernel_rfl⟩

-- 2 parameters, results [.t 4], 24 slots, modes [false, false]
@[simp] abbrev n_laws_sameRegion : Nat := 44

def c_laws_sameRegion : ACode := .seq (.reg [.o 2 .box [.t 0], .o 3 .box [.t 1], .o 4 .mv [.kb false]]) <| .seq (.reg [.f 5 0 2, .l 6 5, .f 7 0 3, .l 8 7,
 .o 9 (.bin .eql 0) [.t 6, .t 8], .m 10 9, .fg 11 1 2 10 true, .lg 12 11 10 true, .fg 13 1 3 10 true, .lg 14 13 10 true, .g 15 (.bin .eql 0) [.t 12,
 .t 14] 10 true, .o 16 .pick [.t 10, .t 15, .kb false], .m 17 16, .fg 18 2 2 17 true, .lg 19 18 17 true, .fg 20 2 3 17 true, .lg 21 20 17 true,
 .g 22 (.call 103 []) [.t 19, .t 21] 17 true, .o 23 .pick [.t 17, .t 22, .kb false], .m 4 23]) <| .ret

theorem k_laws_sameRegion : cFn Tryz.prog n_laws_sameRegion 24 [.t 4] c_laws_sameRegion := ⟨Tryz.f44, _, Tryz.func44, rfl, by kernel_rfl, by kernel_rfl, by kernel_rfl, by kernel_rfl⟩

-- 2 parameters, results [.t 4], 31 slots, modes [false, false]
@[simp] abbrev n_laws_sameBook : Nat := 13

def c_laws_sameBook : ACode := .seq (.reg [.o 2 .box [.t 0], .o 3 .box [.t 1], .o 4 .mv [.kb false]]) <| .seq (.reg [.f 5 0 2, .la 6 3 5, .f 7 0 3, .la 8 3 7,
 .o 9 (.call 44 []) [.t 6, .t 8], .m 10 9, .fg 11 3 2 10 true, .lg 12 11 10 true, .fg 13 3 3 10 true, .lg 14 13 10 true, .g 15 (.call 36 []) [.t 12,
 .t 14] 10 true, .o 16 .pick [.t 10, .t 15, .kb false], .m 17 16, .fg 18 4 2 17 true, .lg 19 18 17 true, .fg 20 4 3 17 true, .lg 21 20 17 true,
 .g 22 (.call 36 []) [.t 19, .t 21] 17 true, .o 23 .pick [.t 17, .t 22, .kb false], .m 24 23, .fg 25 5 2 24 true, .lg 26 25 24 true, .fg 27 5 3 24 true,
 .lg 28 27 24 true, .g 29 (.call 59 []) [.t 26, .t 28] 24 true, .o 30 .pick [.t 24, .t 29, .kb false], .m 4 30]) <| .ret

theorem k_laws_sameBook : cFn Tryz.prog n_laws_sameBook 31 [.t 4] c_laws_sameBook := ⟨Tryz.f13, _, Tryz.func13, rfl, by kernel_rfl, by kernel_rfl, by kernel_rfl, by kernel_rfl⟩

-- 1 parameters, results [.t 2], 6 slots, modes [false]
@[simp] abbrev n_laws_noBook : Nat := 16

def c_laws_noBook : ACode := .seq (.reg [.o 1 .box [.t 0], .o 2 .mv [.kb false]]) <| .seq (.reg [.la 3 6 1, .o 4 (.build bz []) [], .o 5 (.call 13 []) [.t 3,
 .t 4], .m 2 5]) <| .ret

theorem k_laws_noBook : cFn Tryz.prog n_laws_noBook 6 [.t 2] c_laws_noBook := ⟨Tryz.f16, _, Tryz.func16, rfl, by kernel_rfl, by kernel_rfl, by kernel_rfl, by kernel_rfl⟩

-- 1 parameters, results [.t 2], 143 slots, modes [false]
@[simp] abbrev n_laws_FnBookRun : Nat := 9
def c_laws_FnBookRun_L0 : ACode := .seq (.seq (.reg [.m 84 15, .f 85 5 5, .l 86 85, .n 87 86, .o 88 (.bin .lss 0) [.t 84, .t 87]]) <|
 .cond (.t 88) ( .skip) ( .exit 0)) <| .seq (.block 1 ( .reg [.m 91 14, .o 92 (.build dz [(0, 1)]) [.k 4], .o 93 (.bsl 3) [.t 92], .o 94 (.app 3 24 true) [.t 91,
 .t 93], .m 14 94])) <| .reg [.m 89 15, .o 90 (.bin .add 0) [.t 89, .k 1], .m 15 90]

def c_laws_FnBookRun_T1 : ACode := .seq (.reg [.o 83 (.bsl 3) [], .m 14 83]) <| .seq (.seq (.reg [.o 15 .mv [.k 0]]) <| .block 0 ( .loop [(14, 3)] [3, 5, 6, 11,
 12, 13, 14, 15] c_laws_FnBookRun_L0)) <| .seq (.reg [.la 96 6 5, .m 97 14, .o 98 (.call 40 []) [.t 96, .t 97], .m 95 98, .e 99 0 95, .e 100 1 95,
 .o 16 (.alloc bz) [], .s (.store 6) [.t 16, .t 99], .m 17 100]) <| .seq (.reg [.la 101 6 5, .o 102 (.call 19 []) [.t 101], .m 103 102,
 .g 104 (.load true 6) [.t 12] 103 true, .g 105 (.load true 6) [.t 5] 103 true, .g 106 (.call 13 []) [.t 104, .t 105] 103 true, .o 107 .pick [.t 103, .t 106,
 .kb false], .m 108 107, .mg 109 11 108 true, .mg 110 13 108 true, .g 111 (.bin .add 0) [.t 109, .t 110] 108 true, .mg 112 6 108 true,
 .g 113 (.bin .eql 0) [.t 111, .t 112] 108 true, .o 114 .pick [.t 108, .t 113, .kb false], .m 115 114, .fg 116 0 5 115 true,
 .g 117 (.load true 3) [.t 116] 115 true, .fg 118 0 3 115 true, .g 119 (.load true 3) [.t 118] 115 true, .g 120 (.call 44 []) [.t 117, .t 119] 115 true,
 .o 121 .pick [.t 115, .t 120, .kb false], .m 122 121, .mg 123 17 122 true, .mg 124 14 122 true, .g 125 (.len false) [.t 124] 122 true,
 .g 126 (.bin .eql 0) [.t 123, .t 125] 122 true, .o 127 .pick [.t 122, .t 126, .kb false], .m 128 127, .fg 129 5 16 128 true, .lg 130 129 128 true,
 .g 131 (.len false) [.t 130] 128 true, .g 132 (.bin .eql 0) [.t 131, .k 0] 128 true, .o 133 .pick [.t 128, .t 132, .kb false], .m 134 133, .fg 135 0 5 134 true,
 .g 136 (.load true 3) [.t 135] 134 true, .fg 137 3 5 134 true, .lg 138 137 134 true, .fg 139 4 5 134 true, .lg 140 139 134 true, .g 141 (.call 47 []) [.t 136,
 .t 138, .t 140] 134 true, .o 142 .pick [.t 134, .t 141, .kb false], .m 2 142]) <| .ret

abbrev c_laws_FnBookRun_T2_p0 : Plan := .al (.o 80 (.call 40 []) [.t 76, .t 79]) ( .take (.m 75 80) <| .take (.e 81 0 75) <| .take (.e 82 1 75) <| .al (.s (.store 6) [.t 12, .t 81]) ( .take (.m 13 82) <| .done))
def c_laws_FnBookRun_T2 : ACode := .seq (.draw ( .take (.m 77 4) <| .take (.m 78 9) <| .take (.o 79 (.slice 3 false true false false) [.t 77, .t 78]) <|
 .alt (.la 76 6 10) ( .alt (.o 80 (.call 40 []) [.t 76, .t 79]) ( .take (.m 75 80) <| .take (.e 81 0 75) <| .take (.e 82 1 75) <|
 .al (.o 12 (.alloc bz) []) ( .al (.s (.store 6) [.t 12, .t 81]) ( .take (.m 13 82) <| .done))) <| .al (.o 12 (.alloc bz) []) c_laws_FnBookRun_T2_p0) <|
 .al (.o 12 (.alloc bz) []) ( .al (.la 76 6 10) c_laws_FnBookRun_T2_p0))) <| .gc [] [3, 5, 6, 11, 12, 13] c_laws_FnBookRun_T1

abbrev c_laws_FnBookRun_p0 : Plan := .al (.o 72 (.call 40 []) [.t 68, .t 71]) ( .take (.m 67 72) <| .take (.e 73 0 67) <| .take (.e 74 1 67) <| .al (.s (.store 6) [.t 10, .t 73]) ( .take (.m 11 74) <| .done))
def c_laws_FnBookRun : ACode := .seq (.reg [.o 2 .mv [.kb false]]) <| .seq (.seq (.reg [.m 18 0, .n 19 18, .o 20 (.bin .gtr 0) [.t 19, .k 1048576]]) <|
 .cond (.t 20) ( .seq (.reg [.o 2 .mv [.kb true]]) <| .ret) ( .skip)) <| .seq (.reg [.m 22 0, .o 23 (.call 45 []) [.t 22], .m 21 23, .e 24 0 21, .e 25 1 21,
 .o 3 (.alloc bz) [], .s (.store 6) [.t 3, .t 24], .m 4 25]) <| .seq (.reg [.la 27 6 3, .m 28 4, .o 29 (.call 40 []) [.t 27, .t 28], .m 26 29, .e 30 0 26,
 .e 31 1 26, .o 5 (.alloc bz) [], .s (.store 6) [.t 5, .t 30], .m 6 31]) <| .seq (.reg [.la 33 6 3, .m 34 4, .o 35 (.call 38 []) [.t 33, .t 34], .m 32 35,
 .e 36 0 32, .e 37 1 32, .o 7 (.alloc bz) [], .s (.store 6) [.t 7, .t 36], .m 8 37]) <| .seq (.seq (.reg [.la 38 6 5, .la 39 6 7, .o 40 (.call 13 []) [.t 38,
 .t 39], .o 41 (.un .not) [.t 40], .m 42 41, .mg 43 6 42 false, .mg 44 8 42 false, .g 45 (.bin .neq 0) [.t 43, .t 44] 42 false, .o 46 .pick [.t 42, .kb true,
 .t 45]]) <| .cond (.t 46) ( .seq (.reg [.o 2 .mv [.kb false]]) <| .ret) ( .skip)) <| .seq (.seq (.reg [.la 47 6 3, .o 48 (.call 46 []) [.t 47],
 .o 49 (.un .not) [.t 48], .m 50 49, .mg 51 4 50 false, .g 52 (.len false) [.t 51] 50 false, .g 53 (.bin .gtr 0) [.t 52, .k 40] 50 false, .o 54 .pick [.t 50,
 .kb true, .t 53]]) <| .cond (.t 54) ( .seq (.reg [.m 55 6, .o 56 (.bin .eql 0) [.t 55, .k 0], .m 57 56, .g 58 (.load true 6) [.t 5] 57 true,
 .g 59 (.call 16 []) [.t 58] 57 true, .o 60 .pick [.t 57, .t 59, .kb false], .m 61 60, .g 62 (.call 17 []) [] 61 true, .o 63 .pick [.t 61, .t 62, .kb false],
 .m 2 63]) <| .ret) ( .skip)) <| .seq (.reg [.m 64 4, .n 65 64, .o 66 (.bin .quo 0) [.t 65, .k 2], .m 9 66]) <| .seq (.draw ( .take (.m 69 4) <|
 .take (.m 70 9) <| .take (.o 71 (.slice 3 false false true false) [.t 69, .t 70]) <| .alt (.la 68 6 3) ( .alt (.o 72 (.call 40 []) [.t 68,
 .t 71]) ( .take (.m 67 72) <| .take (.e 73 0 67) <| .take (.e 74 1 67) <| .al (.o 10 (.alloc bz) []) ( .al (.s (.store 6) [.t 10, .t 73]) ( .take (.m 11 74) <|
 .done))) <| .al (.o 10 (.alloc bz) []) c_laws_FnBookRun_p0) <| .al (.o 10 (.alloc bz) []) ( .al (.la 68 6 3) c_laws_FnBookRun_p0))) <| .gc [] [3, 4,
 5, 6, 9, 10, 11] c_laws_FnBookRun_T2

theorem k_laws_FnBookRun : cFn Tryz.prog n_laws_FnBookRun 143 [.t 2] c_laws_FnBookRun := ⟨Tryz.f9, _, Tryz.func9, rfl, by kernel_rfl, by kernel_rfl, by kernel_rfl, by kernel_rfl⟩

end Go.Proofs.Dev

namespace Go.Proofs.Dev
set_option linter.unusedSimpArgs false
set_option maxRecDepth 100000

theorem s_laws_sameBools (xs ys : List Bool) (ha : xs.length < 2 ^ 40) :
    SoundAt Tryz.prog n_laws_sameBools [.sl 1 1 (bools xs), .sl 1 1 (bools ys)] (.v (.bool (decide (xs = ys)))) [.bot, .bot] := by
  refine fn_ok (md := md0) (ms := [false, false]) k_laws_sameBools (by simp) ?_
  simp [c_laws_sameBools]
  refine ⟨fun h => ?_, fun hl => ?_⟩
  · intro e; subst e; exact h rfl
  refine loop_by (fun m E H => ∃ i : Nat, m = xs.length - i ∧ i ≤ xs.length ∧ xs.take i = ys.take i ∧ H = [] ∧ E = [(0, .sl 1 1 (bools xs)), (1, .sl 1 1 (bools ys)), (5, .v (.int .i64 i))]) xs.length ⟨0, by simp⟩ ?_
  rintro J hJ m E H ⟨i, rfl, hi, he, rfl, rfl⟩
  by_cases h : i < xs.length
  case neg =>
    have h1 : i = xs.length := by omega
    subst h1
    have e : xs = ys := by
      rw [List.take_length] at he
      rw [he]; exact List.take_of_length_le (by omega)
    simp [c_laws_sameBools_L0, e]
  have h2 : i < ys.length := by omega
  have key : (atb xs i = atb ys i) → xs.take (i + 1) = ys.take (i + 1) := by
    intro e
    rw [List.take_succ_eq_append_getElem h, List.take_succ_eq_append_getElem (by omega), he]
    simp [atb, h, h2] at e
    rw [e]
  have key2 : ¬ (atb xs i = atb ys i) → ¬ xs = ys := fun e e2 => e (by rw [e2])
  by_cases e : atb xs i = atb ys i
  · simp [c_laws_sameBools_L0, h, h2, e]
    exact ⟨by omega, _, by omega, hJ _ _ _ ⟨i + 1, rfl, h, key e, rfl, rfl⟩⟩
  · have e2 : (atb xs i == atb ys i) = false := by simpa using e
    simp [c_laws_sameBools_L0, h, h2, e, e2, key2 e]

def sameR (W T : Int) (cs : List Bool) (W2 T2 : Int) (cs2 : List Bool) : Bool := (decide (W = W2) && decide (T = T2)) && decide (cs = cs2)
def sameK (W T : Int) (cs : List Bool) (ds ls : List Int) (ps : List (List Int)) (W2 T2 : Int) (cs2 : List Bool) (ds2 ls2 : List Int) (ps2 : List (List Int)) : Bool :=
  ((sameR W T cs W2 T2 cs2 && decide (ds = ds2)) && decide (ls = ls2)) && decide (ps = ps2)
theorem sameR_self (W T : Int) (cs : List Bool) : sameR W T cs W T cs = true := by simp [sameR]
theorem sameK_self (W T : Int) (cs : List Bool) (ds ls : List Int) (ps : List (List Int)) : sameK W T cs ds ls ps W T cs ds ls ps = true := by simp [sameK, sameR]

theorem s_laws_sameRegion (W T : Int) (cs : List Bool) (W2 T2 : Int) (cs2 : List Bool) (ha : cs.length < 2 ^ 40) :
    SoundAt Tryz.prog n_laws_sameRegion [.agg [.v (.int .i64 W), .v (.int .i64 T), .sl 1 1 (bools cs)], .agg [.v (.int .i64 W2), .v (.int .i64 T2), .sl 1 1 (bools cs2)]] (.v (.bool (sameR W T cs W2 T2 cs2))) [.bot, .bot] := by
  refine fn_ok (md := md0) (ms := [false, false]) k_laws_sameRegion (by simp) ?_
  unfold sameR
  by_cases h1 : W = W2
  · by_cases h2 : T = T2
    · simp [c_laws_sameRegion, h1, h2]
      refine call_on (s_laws_sameBools cs cs2 ha) ?_
      simp
    · simp [c_laws_sameRegion, h1, h2]
  · simp [c_laws_sameRegion, h1]

theorem s_laws_sameBook (W T : Int) (cs : List Bool) (ds ls : List Int) (ps : List (List Int)) (W2 T2 : Int) (cs2 : List Bool) (ds2 ls2 : List Int) (ps2 : List (List Int))
    (hc : cs.length < 2 ^ 40) (hd : ds.length < 2 ^ 40) (hl : ls.length < 2 ^ 40) (hb : ps.length < 2 ^ 40) (hp : ∀ p ∈ ps, p.length < 2 ^ 40) :
    SoundAt Tryz.prog n_laws_sameBook [bkA W T cs ds ls ps, bkA W2 T2 cs2 ds2 ls2 ps2] (.v (.bool (sameK W T cs ds ls ps W2 T2 cs2 ds2 ls2 ps2))) [.bot, .bot] := by
  refine fn_ok (md := md0) (ms := [false, false]) k_laws_sameBook (by simp) ?_
  have one := s_laws_sameRegion W T cs W2 T2 cs2 hc
  have two := s_laws_sameInts ds ds2 hd
  have three := s_laws_sameInts ls ls2 hl
  have four := s_laws_sameLists ps ps2 hb hp
  unfold sameK
  simp [c_laws_sameBook]
  refine call_on one ?_
  cases sameR W T cs W2 T2 cs2 with
  | false => simp
  | true =>
  simp
  refine call_on two ?_
  by_cases h2 : ds = ds2
  case neg => simp [h2]
  simp [h2]
  refine call_on three ?_
  by_cases h3 : ls = ls2
  case neg => simp [h3]
  simp [h3]
  refine call_on four ?_
  simp

theorem s_laws_noBook (W T : Int) (cs : List Bool) (ds ls : List Int) (ps : List (List Int)) (hc : cs.length < 2 ^ 40) (hd : ds.length < 2 ^ 40) (hl : ls.length < 2 ^ 40) (hb : ps.length < 2 ^ 40) (hp : ∀ p ∈ ps, p.length < 2 ^ 40) :
    SoundAt Tryz.prog n_laws_noBook [bkA W T cs ds ls ps] (.v (.bool (sameK W T cs ds ls ps 0 0 [] [] [] []))) [.bot] := by
  refine fn_ok (md := md0) (ms := [false]) k_laws_noBook (by simp) ?_
  simp [c_laws_noBook]
  have := s_laws_sameBook W T cs ds ls ps 0 0 [] [] [] [] hc hd hl hb hp
  simp only [bkA, bools_nil, ints_nil, show sls 1 [] = [] from rfl] at this
  refine call_on this ?_
  simp
end Go.Proofs.Dev

namespace Go.Proofs.Dev
set_option linter.unusedSimpArgs false

theorem doI_false {W T : Int} {cs : List Bool} {ds ls : List Int} {ps : List (List Int)} {k s w : Int} (h : (doI W T cs ds ls ps k s w).1 = false) : doI W T cs ds ls ps k s w = (false, ls, ps) := by
  unfold doI doRes at *
  split
  · rfl
  · rename_i hn
    rw [if_neg hn] at h
    split
    · rename_i hk
      rw [if_pos hk] at h
      cases hg : ps.getLast? with
      | none => rfl
      | some q => rw [hg] at h; cases h
    · rename_i hk
      rw [if_neg hk] at h
      split
      · rename_i hb; rw [if_pos hb] at h; cases h
      · rfl

end Go.Proofs.Dev

namespace Go.Proofs.Dev
set_option linter.unusedSimpArgs false
set_option maxRecDepth 100000

theorem s_spec_l20Book (bs : List Int) (p : Nat) (n : Int) (hb : bs.length ≤ 2000) (hB : Byt bs) (hp : p < 2 ^ 33) (hn0 : 0 ≤ n) (hn : n < 2 ^ 20) :
    SoundSet Tryz.prog n_spec_l20Book [rdA bs p, .v (.int .i64 n)] (bookSet bs p 1000) := by
  refine fn_okS (md := md8) (ms := [true, false]) k_spec_l20Book (by simp) ?_
  simp [c_spec_l20Book]
  refine call_onK (s_spec_l20Puzzle bs p 0 hb hB (by omega) (by omega) (by omega)) [0] (by simp) (by simp) (by simp) ?_
  rintro _ _ ⟨W, T, cs, ds, q, rfl, hcs, hds, hq, rfl⟩
  simp [regA]
  refine call_on (s_spec_BookNew W T cs ds (by omega) (by omega)) ?_
  obtain ⟨W2, T2, cs2, ds2, ls2, e, hk⟩ := new_ok W T cs ds
  rw [e]
  simp
  refine call_onK (s_spec_l20Rd_pick bs q 14 hb hB (by omega)) [0] (by simp) (by simp) (by simp) ?_
  rintro _ _ ⟨x, x0, x1, rfl, rfl⟩
  obtain ⟨m, rfl⟩ : ∃ m : Nat, x = m := ⟨x.toNat, by omega⟩
  simp
  refine book_L0 bs p (q + 1) n m W2 T2 cs2 ds2 ls2 [] hb hB (by omega) (by omega) (by omega) hk _ ?_
  intro q2 W T cs ds ls ps E hq2 hk e0 e1 e4 e7 e64
  obtain ⟨a1, a2, a3, a4, a5⟩ := bookOk_len hk
  have t1 : (oss ps).take ps.length = oss ps := List.take_of_length_le (by simp [oss])
  have fin : ∀ (W T : Int) (cs : List Bool) (ds ls : List Int) (ps : List (List Int)) (q3 : Nat), cs.length ≤ 37 → ds.length ≤ 38 → ls.length ≤ 38 → ps.length ≤ 21 → (∀ x ∈ ps, x.length ≤ 37) → q3 ≤ q2 + 5 → bookSet bs p 1000 (bkO W T cs ds ls ps) [rdA bs q3, .bot] :=
    fun W T cs ds ls ps q3 h1 h2 h3 h4 h5 h6 => ⟨W, T, cs, ds, ls, ps, q3, h1, h2, h3, h4, h5, by omega, rfl, rfl⟩
  have a5' : ∀ x ∈ ps, x.length ≤ 37 := fun x hx => by have := a5 x hx; omega
  simp [e0, e1]
  refine call_onK (s_spec_l20Rd_odd bs q2 n hb hB (by omega) (by omega)) [0] (by simp) (by simp) (by simp) ?_
  rintro _ _ ⟨o, q3, rfl, hq3, rfl⟩
  cases o with
  | false =>
    simp [get_purgeE, e0, e4, e7, e64]
    refine ⟨_, _, fin W T cs ds ls ps q3 (by omega) (by omega) (by omega) (by omega) a5' (by omega), ?_⟩
    simp [get_purgeE, e0, e1, e4, e7, e64, t1]
  | true =>
    simp [get_purgeE, e0, e4, e7, e64]
    refine call_onK (s_spec_l20Rd_pick bs q3 4 hb hB (by omega)) [0] (by simp) (by simp) (by simp) ?_
    rintro _ _ ⟨y, y0, y1, rfl, rfl⟩
    by_cases c0 : y = 0
    · have ea : ints ls ++ [.v (.int .i64 0)] = ints (ls ++ [0]) := by simp [ints]
      have t2 : (ints (ls ++ [0])).take (ls.length + 1) = ints (ls ++ [0]) := List.take_of_length_le (by simp)
      simp [c0, get_purgeE, e0, e4, e7, e64, ea]
      refine ⟨by omega, _, _, fin W T cs ds (ls ++ [0]) ps (q3 + 1) (by omega) (by omega) (by simp; omega) (by omega) a5' (by omega), ?_⟩
      simp [get_purgeE, e0, e1, e4, e7, e64, t1, t2]
    by_cases c1 : y = 1
    · have ea : oss ps ++ [.os 1 [.v (.int .i64 9)]] = oss (ps ++ [[9]]) := by simp [oss, ints]
      have t2 : (oss (ps ++ [[9]])).take (ps.length + 1) = oss (ps ++ [[9]]) := List.take_of_length_le (by simp [oss])
      simp [c1, get_purgeE, e0, e4, e7, e64, ea]
      refine ⟨by omega, _, _, fin W T cs ds ls (ps ++ [[9]]) (q3 + 1) (by omega) (by omega) (by omega) (by simp; omega) (by intro x hx; simp at hx; rcases hx with h | rfl; exact a5' x h; simp) (by omega), ?_⟩
      simp [get_purgeE, e0, e1, e4, e7, e64, t2]
    by_cases c2 : y = 2
    · simp [c0, c1, c2, get_purgeE, e0, e4, e7, e64]
      refine ⟨_, _, fin 0 0 [] [] [] [] (q3 + 1) (by simp) (by simp) (by simp) (by simp) (by simp) (by omega), ?_⟩
      simp [get_purgeE, e0, e1, e4, e7, e64, oss]
    · have ea : ints ds ++ [.v (.int .i64 0)] = ints (ds ++ [0]) := by simp [ints]
      have t2 : (ints (ds ++ [0])).take (ds.length + 1) = ints (ds ++ [0]) := List.take_of_length_le (by simp)
      simp [c0, c1, c2, get_purgeE, e0, e4, e7, e64, ea]
      refine ⟨by omega, _, _, fin W T cs (ds ++ [0]) ls ps (q3 + 1) (by omega) (by simp; omega) (by omega) (by omega) a5' (by omega), ?_⟩
      simp [get_purgeE, e0, e1, e4, e7, e64, t1, t2]
end Go.Proofs.Dev

namespace Go.Proofs.Dev
set_option linter.unusedSimpArgs false
set_option maxRecDepth 100000

end Go.Proofs.Dev

namespace Go.Proofs.Dev
set_option linter.unusedSimpArgs false

/-! Made puzzles. -/
end Go.Proofs.Dev

namespace Go.Proofs.Dev
set_option linter.unusedSimpArgs false

end Go.Proofs.Dev
