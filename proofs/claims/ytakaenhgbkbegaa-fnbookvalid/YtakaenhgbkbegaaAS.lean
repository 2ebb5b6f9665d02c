/- Contracts of the functions of the program over slots and rows, each proved against the program itself; no condition beyond those that each theorem names. -/
import Derived.Test.YtakaenhgbkbegaaAR
import Derived.Test.YtakaenhgbkbegaaAL
import Derived.Test.YtakaenhgbkbegaaAN
import Derived.Test.YtakaenhgbkbegaaAO
import Derived.Test.YtakaenhgbkbegaaAH

set_option linter.unusedSimpArgs false
set_option linter.unusedVariables false

namespace Go.Proofs.Dev
set_option linter.unusedSimpArgs false
set_option maxRecDepth 100000

/-- A book is as it was drawn. -/
def bookSet (bs : List Int) (p d : Nat) (r : AV) (ups : List AV) : Prop := ∃ (W T : Int) (cs : List Bool) (ds ls : List Int) (ps : List (List Int)) (q : Nat), cs.length ≤ 37 ∧ ds.length ≤ 38 ∧ ls.length ≤ 38 ∧ ps.length ≤ 21 ∧ (∀ x ∈ ps, x.length ≤ 37) ∧ q ≤ p + d ∧
  r = bkO W T cs ds ls ps ∧ ups = [rdA bs q, .bot]

/-- Valid, or none at all. -/
def bookOk (W T : Int) (cs : List Bool) (ds ls : List Int) (ps : List (List Int)) : Prop := bookB W T cs ds ls ps = true ∨ (cs = [] ∧ ds = [] ∧ ls = [] ∧ ps = [])

theorem bookOk_len {W T : Int} {cs : List Bool} {ds ls : List Int} {ps : List (List Int)} (h : bookOk W T cs ds ls ps) : cs.length ≤ 36 ∧ ds.length ≤ 36 ∧ ls.length ≤ 36 ∧ ps.length ≤ 20 ∧ ∀ x ∈ ps, x.length ≤ 36 := by
  rcases h with h | ⟨rfl, rfl, rfl, rfl⟩
  · obtain ⟨h1, h2, h3⟩ := book_parts h
    obtain ⟨a1, a2, a3⟩ := fair_len h1
    refine ⟨a1, by omega, by omega, h2, fun x hx => ?_⟩
    have := fair_len (h3 x hx)
    omega
  · simp

theorem bare_lays {W T : Int} {cs : List Bool} : laysB W T cs (noneL cs) = true := by
  simp only [laysB, Bool.and_eq_true, decide_eq_true_eq, allB_iff]
  refine ⟨by simp [noneL], fun k hk => ?_⟩
  have : ati (noneL cs) k = 0 := by
    simp only [noneL, List.length_replicate] at hk
    simp [ati, noneL, hk]
  simp [layAt, this]
theorem none_ati (cs : List Bool) (k : Nat) : ati (noneL cs) k = 0 := by
  simp only [ati, noneL, Int.toNat_natCast, List.getD_eq_getElem?_getD]
  by_cases h : k < cs.length
  · simp [h]
  · simp [h]
theorem bare_fair {W T : Int} {cs : List Bool} {ds : List Int} (hr : regB W T cs = true) (hd : digsB cs ds = true) : fairB W T cs ds (noneL cs) = true := by
  refine fair_of hr hd bare_lays ?_
  have : pairsI W T ds (noneL cs) = [] := by
    simp [pairsI, pairsTo, none_ati]
  rw [this]; rfl

theorem new_ok (W T : Int) (cs : List Bool) (ds : List Int) : ∃ (W2 T2 : Int) (cs2 : List Bool) (ds2 ls2 : List Int), newB W T cs ds = bkO W2 T2 cs2 ds2 ls2 [] ∧ bookOk W2 T2 cs2 ds2 ls2 [] := by
  unfold newB
  split
  · rename_i h
    simp only [Bool.and_eq_true] at h
    exact ⟨W, T, cs, ds, noneL cs, rfl, .inl (book_of (bare_fair h.1 h.2) (by simp) (by simp))⟩
  · exact ⟨0, 0, [], [], [], rfl, .inr ⟨rfl, rfl, rfl, rfl⟩⟩

/-- What is laid after a deed is fair, and so is what is past. -/
theorem do_ok {W T : Int} {cs : List Bool} {ds ls : List Int} {ps : List (List Int)} (k s w : Int) (h : bookB W T cs ds ls ps = true) : bookB W T cs ds (doI W T cs ds ls ps k s w).2.1 (doI W T cs ds ls ps k s w).2.2 = true := by
  obtain ⟨h1, h2, h3⟩ := book_parts h
  unfold doI doRes
  split
  · exact h
  split
  · rcases List.eq_nil_or_concat ps with rfl | ⟨qs, q, hq⟩
    · exact h
    · rw [List.concat_eq_append] at hq
      subst hq
      simp only [List.getLast?_append, List.getLast?_singleton, Option.some_or, List.dropLast_concat]
      simp at h2
      exact book_of (h3 q (by simp)) (by omega) (fun p hp => h3 p (by simp [hp]))
  split
  · rename_i hb
    simp only [Bool.and_eq_true] at hb
    refine book_of hb.2 ?_ ?_
    · simp [bkPast]; omega
    · intro p hp
      have := List.mem_of_mem_drop hp
      simp at this
      rcases this with h4 | rfl
      · exact h3 p h4
      · exact h1
  · exact h

theorem bdo (W T : Int) (cs : List Bool) (ds ls : List Int) (ps : List (List Int)) (k s w : Int) (hk : bookOk W T cs ds ls ps) :
    ∃ (d : Bool) (W2 T2 : Int) (cs2 : List Bool) (ds2 ls2 : List Int) (ps2 : List (List Int)), SoundAt Try.prog n_spec_BookDo [bkA W T cs ds ls ps, deedV k s w] (.tup [bkO W2 T2 cs2 ds2 ls2 ps2, .v (.bool d)]) [.bot, .bot] ∧ bookOk W2 T2 cs2 ds2 ls2 ps2 := by
  obtain ⟨a1, a2, a3, a4, a5⟩ := bookOk_len hk
  have := s_spec_BookDo W T cs ds ls ps k s w (by omega) (by omega) (by omega) (by omega) (fun p hp => by have := a5 p hp; omega)
  cases hb : bookB W T cs ds ls ps with
  | true =>
    rw [hb] at this
    simp only [if_true] at this
    exact ⟨_, _, _, _, _, _, _, this, .inl (do_ok k s w hb)⟩
  | false =>
    rw [hb] at this
    exact ⟨_, _, _, _, _, _, _, this, .inr ⟨rfl, rfl, rfl, rfl⟩⟩

abbrev bkcs (i : Nat) (W T : Int) (cs : List Bool) (ds ls : List Int) (ps : List (List Int)) : List AV := [.v (.int .i64 W), .v (.int .i64 T), .ls 1 i 0 cs.length, .ls 1 (i + 1) 0 ds.length, .ls 1 (i + 2) 0 ls.length, .ls 1 (i + 3) 0 ps.length]
abbrev bookH (bs : List Int) (q : Nat) (W T : Int) (cs : List Bool) (ds ls : List Int) (ps : List (List Int)) : Heap :=
  [some (.box [.sl 0 1 (u8s bs), .v (.int .i64 q)]), some (.box [.v (.int .i64 0), .v (.int .i64 0), .os 1 [], .os 1 [], .os 1 [], .os 1 []]),
    some (.box (bkcs 3 W T cs ds ls ps)), some (.arr 1 (bools cs)), some (.arr 1 (ints ds)), some (.arr 1 (ints ls)), some (.arr 1 (oss ps))]
abbrev bookE (n : Int) (i : Int) : ES := [(0, .lp 0 0 0 0), (1, .v (.int .i64 n)), (4, .lp 0 1 0 0), (7, .lp 0 2 0 0), (8, .v (.int .i64 i)), (64, .lp 0 0 0 0)]

set_option maxHeartbeats 20000000 in
theorem book_L0 (bs : List Int) (p q : Nat) (n : Int) (m : Nat) (W T : Int) (cs : List Bool) (ds ls : List Int) (ps : List (List Int)) (hb : bs.length ≤ 2000) (hB : Byt bs) (hp : p < 2 ^ 34) (hm : m < 14) (hq : q ≤ p + 700) (hk : bookOk W T cs ds ls ps) (Qc : AExit → ES → Heap → Prop)
    (hend : ∀ (q2 : Nat) (W T : Int) (cs : List Bool) (ds ls : List Int) (ps : List (List Int)) (E : ES), q2 ≤ p + 850 → bookOk W T cs ds ls ps → get E 0 = .lp 0 0 0 0 → get E 1 = .v (.int .i64 n) → get E 4 = .lp 0 1 0 0 → get E 7 = .lp 0 2 0 0 → get E 64 = .lp 0 0 0 0 → Qc (.exit 0) E (bookH bs q2 W T cs ds ls ps)) :
    loopNode [] [0, 1, 4, 7, 8, 64] (awp Try.prog md8 c_spec_l20Book_L0) Qc (bookE n m) (bookH bs q W T cs ds ls ps) := by
  refine loop_by (fun b E H => ∃ (q2 : Nat) (W T : Int) (cs : List Bool) (ds ls : List Int) (ps : List (List Int)), b ≤ m ∧ q2 + b * 10 ≤ q + m * 10 ∧ bookOk W T cs ds ls ps ∧ E = bookE n b ∧ H = bookH bs q2 W T cs ds ls ps) m ⟨q, W, T, cs, ds, ls, ps, Nat.le_refl _, Nat.le_refl _, hk, rfl, rfl⟩ ?_
  rintro J hJ b E H ⟨q2, W, T, cs, ds, ls, ps, hbm, hq2, hk, rfl, rfl⟩
  by_cases h0 : b = 0
  · subst h0
    simp [c_spec_l20Book_L0]
    exact hend q2 W T cs ds ls ps _ (by omega) hk rfl rfl rfl rfl rfl
  obtain ⟨a1, a2, a3, a4, a5⟩ := bookOk_len hk
  have h0' : 0 < b := by omega
  have ded := s_spec_l20Deed bs q2 W T cs ds ls ps hb hB (by omega) (by omega) (by omega) (by omega)
  have nx : ∀ (q3 : Nat) (W2 T2 : Int) (cs2 : List Bool) (ds2 ls2 : List Int) (ps2 : List (List Int)), q3 ≤ q2 + 10 → bookOk W2 T2 cs2 ds2 ls2 ps2 → again J b (bookE n ((b : Int) - 1)) (bookH bs q3 W2 T2 cs2 ds2 ls2 ps2) := by
    intro q3 W2 T2 cs2 ds2 ls2 ps2 h1 h2
    refine ⟨b - 1, by omega, hJ _ _ _ ⟨q3, W2, T2, cs2, ds2, ls2, ps2, by omega, by omega, h2, ?_, rfl⟩⟩
    rw [show ((b - 1 : Nat) : Int) = (b : Int) - 1 by omega]
  simp [c_spec_l20Book_L0, h0']
  repeat' first
    | omega
    | apply And.intro
    | (refine call_onK ded [0] ?_ ?_ ?_ ?_
       · simp
       · simp
       · simp
       rintro _ _ ⟨k, s, w, q3, k0, k1, s0, s1, w0, w1, hq3, rfl, rfl⟩
       obtain ⟨d, W2, T2, cs2, ds2, l2, p2, hS, hk2⟩ := bdo W T cs ds ls ps k s w hk
       simp)
    | (refine call_on hS ?_
       cases d with
       | false =>
         simp
         exact ⟨by omega, nx q3 W T cs ds ls ps hq3 hk⟩
       | true =>
         simp
         exact ⟨by omega, nx q3 W2 T2 cs2 ds2 l2 p2 hq3 hk2⟩)
end Go.Proofs.Dev

namespace Go.Proofs.Dev
set_option linter.unusedSimpArgs false
set_option maxRecDepth 100000

theorem s_spec_l20Book (bs : List Int) (p : Nat) (n : Int) (hb : bs.length ≤ 2000) (hB : Byt bs) (hp : p < 2 ^ 33) (hn0 : 0 ≤ n) (hn : n < 2 ^ 20) :
    SoundSet Try.prog n_spec_l20Book [rdA bs p, .v (.int .i64 n)] (bookSet bs p 1000) := by
  refine fn_okS (md := md8) (ms := [true, false]) k_spec_l20Book (by simp) ?_
  simp [c_spec_l20Book]
  refine call_onK (s_spec_l20Puzzle bs p 0 hb hB (by omega) (by omega) (by omega)) [0] (by simp) (by simp) (by simp) ?_
  rintro _ _ ⟨W, T, cs, ds, q, rfl, hcs, hds, hq, rfl⟩
  simp [regA]
  refine call_on (s_spec_BookNew W T cs ds (by omega) (by omega)) ?_
  obtain ⟨W2, T2, cs2, ds2, ls2, e, hk⟩ := new_ok W T cs ds
  rw [e]
  simp
  refine call_onK (s_spec_l20Rd_pick bs q 14 hb hB (by omega)) [0] (by simp) (by simp) (by simp) ?_
  rintro _ _ ⟨x, x0, x1, rfl, rfl⟩
  obtain ⟨m, rfl⟩ : ∃ m : Nat, x = m := ⟨x.toNat, by omega⟩
  simp
  refine book_L0 bs p (q + 1) n m W2 T2 cs2 ds2 ls2 [] hb hB (by omega) (by omega) (by omega) hk _ ?_
  intro q2 W T cs ds ls ps E hq2 hk e0 e1 e4 e7 e64
  obtain ⟨a1, a2, a3, a4, a5⟩ := bookOk_len hk
  have t1 : (oss ps).take ps.length = oss ps := List.take_of_length_le (by simp [oss])
  have fin : ∀ (W T : Int) (cs : List Bool) (ds ls : List Int) (ps : List (List Int)) (q3 : Nat), cs.length ≤ 37 → ds.length ≤ 38 → ls.length ≤ 38 → ps.length ≤ 21 → (∀ x ∈ ps, x.length ≤ 37) → q3 ≤ q2 + 5 → bookSet bs p 1000 (bkO W T cs ds ls ps) [rdA bs q3, .bot] :=
    fun W T cs ds ls ps q3 h1 h2 h3 h4 h5 h6 => ⟨W, T, cs, ds, ls, ps, q3, h1, h2, h3, h4, h5, by omega, rfl, rfl⟩
  have a5' : ∀ x ∈ ps, x.length ≤ 37 := fun x hx => by have := a5 x hx; omega
  simp [e0, e1]
  refine call_onK (s_spec_l20Rd_odd bs q2 n hb hB (by omega) (by omega)) [0] (by simp) (by simp) (by simp) ?_
  rintro _ _ ⟨o, q3, rfl, hq3, rfl⟩
  cases o with
  | false =>
    simp [get_purgeE, e0, e4, e7, e64]
    refine ⟨_, _, fin W T cs ds ls ps q3 (by omega) (by omega) (by omega) (by omega) a5' (by omega), ?_⟩
    simp [get_purgeE, e0, e1, e4, e7, e64, t1]
  | true =>
    simp [get_purgeE, e0, e4, e7, e64]
    refine call_onK (s_spec_l20Rd_pick bs q3 4 hb hB (by omega)) [0] (by simp) (by simp) (by simp) ?_
    rintro _ _ ⟨y, y0, y1, rfl, rfl⟩
    by_cases c0 : y = 0
    · have ea : ints ls ++ [.v (.int .i64 0)] = ints (ls ++ [0]) := by simp [ints]
      have t2 : (ints (ls ++ [0])).take (ls.length + 1) = ints (ls ++ [0]) := List.take_of_length_le (by simp)
      simp [c0, get_purgeE, e0, e4, e7, e64, ea]
      refine ⟨by omega, _, _, fin W T cs ds (ls ++ [0]) ps (q3 + 1) (by omega) (by omega) (by simp; omega) (by omega) a5' (by omega), ?_⟩
      simp [get_purgeE, e0, e1, e4, e7, e64, t1, t2]
    by_cases c1 : y = 1
    · have ea : oss ps ++ [.os 1 [.v (.int .i64 9)]] = oss (ps ++ [[9]]) := by simp [oss, ints]
      have t2 : (oss (ps ++ [[9]])).take (ps.length + 1) = oss (ps ++ [[9]]) := List.take_of_length_le (by simp [oss])
      simp [c1, get_purgeE, e0, e4, e7, e64, ea]
      refine ⟨by omega, _, _, fin W T cs ds ls (ps ++ [[9]]) (q3 + 1) (by omega) (by omega) (by omega) (by simp; omega) (by intro x hx; simp at hx; rcases hx with h | rfl; exact a5' x h; simp) (by omega), ?_⟩
      simp [get_purgeE, e0, e1, e4, e7, e64, t2]
    by_cases c2 : y = 2
    · simp [c0, c1, c2, get_purgeE, e0, e4, e7, e64]
      refine ⟨_, _, fin 0 0 [] [] [] [] (q3 + 1) (by simp) (by simp) (by simp) (by simp) (by simp) (by omega), ?_⟩
      simp [get_purgeE, e0, e1, e4, e7, e64, oss]
    · have ea : ints ds ++ [.v (.int .i64 0)] = ints (ds ++ [0]) := by simp [ints]
      have t2 : (ints (ds ++ [0])).take (ds.length + 1) = ints (ds ++ [0]) := List.take_of_length_le (by simp)
      simp [c0, c1, c2, get_purgeE, e0, e4, e7, e64, ea]
      refine ⟨by omega, _, _, fin W T cs (ds ++ [0]) ls ps (q3 + 1) (by omega) (by simp; omega) (by omega) (by omega) a5' (by omega), ?_⟩
      simp [get_purgeE, e0, e1, e4, e7, e64, t1, t2]
end Go.Proofs.Dev

namespace Go.Proofs.Dev
set_option linter.unusedSimpArgs false
set_option maxRecDepth 100000

theorem SoundSet.frozen {P : Program} {f : Nat} {xs : List AV} {post : AV → List AV → Prop} (hS : ∀ C S us, RL C xs S us → S = []) (hb : ∀ r ups, post r ups → ∃ n, ups = List.replicate n .bot) (h : SoundSet P f xs post) :
    SoundSet P f xs fun r ups => ∃ r0, post r0 ups ∧ r = vw 0 r0 := by
  intro w forb us S hr hnd hsz hforb
  have hS0 : S = [] := hS _ _ _ hr
  subst hS0
  refine Calls.mono (h w forb us [] hr hnd hsz hforb) ?_
  rintro e w' ⟨r, ups, hpost, v, S', he, hv, hnd', hmem, hk⟩
  obtain ⟨n, rfl⟩ := hb r ups hpost
  rw [RL] at hv
  obtain ⟨S1, S2, u, us', rfl, hu, h1, h2⟩ := hv
  cases hu
  obtain ⟨rfl, h4⟩ := RL_bots n h2
  refine ⟨vw 0 r, List.replicate n .bot, ⟨r, hpost, rfl⟩, v, [], he, ?_, List.nodup_nil, by simp, hk⟩
  rw [RL]
  refine ⟨[], [], v, us, rfl, rfl, ?_, h4 _⟩
  refine R.open (c := 0) (vw_ok (C' := cout w' [] forb) 0 r (cout w' (S1 ++ []) forb) (fun _ => rfl) rfl ?_ S1 v h1 ?_)
  · intro d b _ hb
    match d, hb with
    | 0, hb =>
      intro hx
      rcases hx with hx | hx
      · cases hx
      · exact hb (.inr hx)
    | d + 1, hb => exact absurd trivial hb
  · intro x hx hbad
    rcases hbad with hbad | hbad
    · cases hbad
    · rcases (hmem x (by simp [hx])).2 with h5 | h5
      · have := hforb x hbad
        omega
      · cases h5

@[simp] def md9 (f : Nat) : List Bool := if f = 4 then [true] else md8 f

def drawV (r : AV) (ups : List AV) : Prop := ∃ (W T : Int) (cs : List Bool) (ds ls : List Int) (ps : List (List Int)), cs.length ≤ 37 ∧ ds.length ≤ 38 ∧ ls.length ≤ 38 ∧ ps.length ≤ 21 ∧ (∀ x ∈ ps, x.length ≤ 37) ∧ r = bkO W T cs ds ls ps ∧ ups = [.bot]

theorem s_spec_DrawBookValid (bs : List Int) (hb : bs.length ≤ 2 ^ 60) (hB : Byt bs) : SoundSet Try.prog n_spec_DrawBookValid [.sl 0 1 (u8s bs)] drawV := by
  refine fn_okS (md := md8) (ms := [false]) k_spec_DrawBookValid (by simp) ?_
  simp [c_spec_DrawBookValid]
  refine call_on (s_spec_l20Open bs hb) ?_
  simp
  refine call_onK (s_spec_l20Book (bs.take 2000) 0 2 (by simp; omega) (byt_take hB 2000) (by omega) (by omega) (by omega)) [1] (by simp) (by simp) (by simp) ?_
  rintro _ _ ⟨W, T, cs, ds, ls, ps, q, h1, h2, h3, h4, h5, hq, rfl, rfl⟩
  have t1 : (oss ps).take ps.length = oss ps := List.take_of_length_le (by simp)
  simp
  refine ⟨_, _, ⟨W, T, cs, ds, ls, ps, h1, h2, h3, h4, h5, rfl, rfl⟩, ?_⟩
  simp [t1]

theorem drawV_frz (bs : List Int) (hb : bs.length ≤ 2 ^ 60) (hB : Byt bs) : SoundSet Try.prog n_spec_DrawBookValid [.sl 0 1 (u8s bs)] fun r ups => ∃ r0, drawV r0 ups ∧ r = vw 0 r0 := SoundSet.frozen (fun _ S us hr => noOL_ok _ S us rfl hr) (fun r ups h => by obtain ⟨_, _, _, _, _, _, _, _, _, _, _, _, rfl⟩ := h; exact ⟨1, rfl⟩) (s_spec_DrawBookValid bs hb hB)

theorem fair_seven (W T : Int) (cs : List Bool) (ds : List Int) : fairB W T cs ds [7] = false := by
  cases h : fairB W T cs ds [7] with
  | false => rfl
  | true =>
    have hl := (fair_parts h).2.2.1
    simp only [laysB, Bool.and_eq_true, allB_iff] at hl
    have := hl.2 0 (by simp)
    simp [layAt, ati] at this

theorem book_seven (W T : Int) (cs : List Bool) (ds ls : List Int) (ps : List (List Int)) : bookB W T cs ds ls (ps ++ [[7]]) = false := by
  cases h : bookB W T cs ds ls (ps ++ [[7]]) with
  | false => rfl
  | true =>
    simp only [bookB, Bool.and_eq_true, pastB, allB_iff] at h
    have := h.2 ps.length (by simp)
    simp [pti] at this
    rw [fair_seven] at this
    cases this

theorem book_bare {W T : Int} {cs : List Bool} {ds ls : List Int} {ps : List (List Int)} (h : bookB W T cs ds ls ps = true) : bookB W T cs ds ls [] = true := by
  simp only [bookB, Bool.and_eq_true] at h ⊢
  exact ⟨⟨h.1.1, by simp⟩, by simp [pastB, allB_zero]⟩

set_option maxHeartbeats 2000000 in
theorem l_FnBookValid (bs : List Int) (hB : Byt bs) : SoundAt Try.prog n_laws_FnBookValid [.sl 0 1 (u8s bs)] (.v (.bool true)) [.bot] := by
  refine fn_ok (md := md9) (ms := [false]) k_laws_FnBookValid (by simp) ?_
  simp [c_laws_FnBookValid]
  refine fun hsz => ?_
  have hb : bs.length ≤ 2 ^ 60 := by omega
  refine call_onK (drawV_frz bs hb hB) [] (by simp) (by simp) (by simp) ?_
  rintro _ _ ⟨_, ⟨W, T, cs, ds, ls, ps, h1, h2, h3, h4, h5, rfl, rfl⟩, rfl⟩
  have hp : ∀ p ∈ ps, p.length < 2 ^ 40 := fun p hp => by have := h5 p hp; omega
  have one := s_impl_BookValid W T cs ds ls ps (by omega) (by omega) (by omega) (by omega) hp
  have two := s_spec_BookValid W T cs ds ls ps (by omega) (by omega) (by omega) (by omega) hp
  have three := s_impl_BookValid W T cs ds ls [] (by omega) (by omega) (by omega) (by simp) (by simp)
  have four := s_impl_BookValid W T cs ds ls (ps ++ [[7]]) (by omega) (by omega) (by omega) (by simp; omega) (fun p hp' => by
    rcases List.mem_append.1 hp' with h | h
    · exact hp p h
    · simp at h; subst h; simp)
  rw [book_seven] at four
  simp [vw, vwL]
  refine call_on one ?_
  simp
  refine call_on two ?_
  have hb1 := @book_bare W T cs ds ls ps
  generalize bookB W T cs ds ls ps = ok at *
  have e7 : vwL 1 (sls 0 ps ++ [AV.os 1 [AV.v (.int .i64 7)]]) = sls 1 (ps ++ [[7]]) := by
    have : ∀ qs : List (List Int), vwL 1 (sls 0 qs ++ [AV.os 1 [AV.v (.int .i64 7)]]) = sls 1 (qs ++ [[7]]) := by
      intro qs
      induction qs with
      | nil => simp [sls, vwL, vw, ints]
      | cons q qs ih => 
        show vw 1 _ :: vwL 1 (sls 0 qs ++ _) = _ :: sls 1 (qs ++ [[7]])
        rw [ih]
        simp [vw]
    exact this ps
  have tk7 : List.take (ps.length + 1) (sls 0 ps ++ [AV.os 1 [AV.v (.int .i64 7)]]) = sls 0 ps ++ [AV.os 1 [AV.v (.int .i64 7)]] := List.take_of_length_le (by simp)
  cases ok with
  | true =>
    rw [hb1 rfl] at three
    simp
    refine ⟨by omega, by omega, ?_⟩
    refine call_on three ?_
    simp
    refine call_on four ?_
    simp [e7, tk7]
    refine call_on s_laws_alive ?_
    simp
  | false =>
    simp
    refine ⟨by omega, by omega, ?_⟩
    refine call_on four ?_
    simp [e7, tk7]
    refine call_on s_laws_alive ?_
    simp

end Go.Proofs.Dev
