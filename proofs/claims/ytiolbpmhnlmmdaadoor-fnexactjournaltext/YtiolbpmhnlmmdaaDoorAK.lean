/- Contracts of the functions of the program over slots and rows, each proved against the program itself; no condition beyond those that each theorem names. -/
import Derived.Test.YtiolbpmhnlmmdaaDoorAJ
import Derived.Test.YtiolbpmhnlmmdaaDoorAH
import Derived.Test.YtiolbpmhnlmmdaaDoorAI
import Derived.Test.YtiolbpmhnlmmdaaDoorProg

set_option linter.unusedSimpArgs false
set_option linter.unusedVariables false

namespace Go.Proofs.Dev
open Go.RowKit Go.Shelf
set_option linter.unusedVariables false
set_option linter.unusedSimpArgs false

theorem GB.below {w w' : World} {S : List Nat} {forb : Nat → Prop} (h : GB w S forb) (k : Below w.heap.size w w') : GB w' S forb := by
  refine ⟨RL.step (C := gCtx w S forb) (C' := gCtx w' S forb) ⟨k.size, ?_, fun _ _ hx => by simp [gCtx] at hx, Nat.le_refl _, fun _ _ => rfl, ?_⟩ gAs [] gUs (by simp) h.1, ?_⟩
  · intro c b hb hbad
    exact ⟨hbad, k.block b hb⟩
  · exact (kept_of_below [] k).room
  · intro p hp
    obtain ⟨h1, u, hu, hq⟩ := h.2 p hp
    exact ⟨h1, u, (World.cell?_of_block (k.block _ (block_lt_of_cell hu))).trans hu, hq⟩

/-- The cells of deeds, one after the other. -/
def cellsD (xs : List (Int × Int × Int)) : List Value := xs.flatMap fun d => [.int .i64 d.1, .int .i64 d.2.1, .int .i64 d.2.2]
theorem RL_ds_us {C : Ctx} : ∀ {xs : List (Int × Int × Int)} {S : List Nat} {us : List Value}, RL C (flatE (dsA xs)) S us → us = cellsD xs
  | [], S, us, h => by
    have h' : RL C [] S us := h
    rw [RL] at h'
    exact h'.2
  | d :: xs, S, us, h => by
    have h' : RL C (.v (.int .i64 d.1) :: .v (.int .i64 d.2.1) :: .v (.int .i64 d.2.2) :: flatE (dsA xs)) S us := h
    rw [RL] at h'
    obtain ⟨S1, S2, u, us', rfl, rfl, h1, h2⟩ := h'
    rw [RL] at h2
    obtain ⟨S3, S4, v, us2, rfl, rfl, h3, h4⟩ := h2
    rw [RL] at h4
    obtain ⟨S5, S6, x, us3, rfl, rfl, h5, h6⟩ := h4
    rw [R] at h1 h3 h5
    rw [RL_ds_us h6, h1.2, h3.2, h5.2]
    rfl
theorem cellsD_get : ∀ {xs : List (Int × Int × Int)} {j : Nat} {d : Int × Int × Int}, xs[j]? = some d → (cellsD xs)[j * 3]? = some (.int .i64 d.1) ∧ (cellsD xs)[j * 3 + 1]? = some (.int .i64 d.2.1) ∧ (cellsD xs)[j * 3 + 2]? = some (.int .i64 d.2.2)
  | [], j, d, h => by simp at h
  | e :: xs, 0, d, h => by
    have : e = d := by simpa using h
    subst this
    exact ⟨rfl, rfl, rfl⟩
  | e :: xs, j + 1, d, h => by
    have ih := cellsD_get (xs := xs) (j := j) (d := d) (by simpa using h)
    have e1 : cellsD (e :: xs) = .int .i64 e.1 :: .int .i64 e.2.1 :: .int .i64 e.2.2 :: cellsD xs := rfl
    rw [e1, Nat.succ_mul]
    exact ih

theorem dt_calls {w : World} {forb : Nat → Prop} (hg : GB w [] forb) (hforb : ∀ x, forb x → x < w.heap.size) (d : Int × Int × Int) :
    Calls Tryd.prog 12 #[.agg #[.int .i64 d.1, .int .i64 d.2.1, .int .i64 d.2.2]] w fun e w' => e = .returned (.string ⟨(dText d).toArray⟩) ∧ Below w.heap.size w w' := by
  have hr : RL (cin w [] forb) [deedA d] [] [.agg #[.int .i64 d.1, .int .i64 d.2.1, .int .i64 d.2.2]] := by
    rw [RL]
    refine ⟨[], [], _, _, rfl, rfl, ?_, by rw [RL]; exact ⟨rfl, rfl⟩⟩
    unfold deedA
    rw [R]
    refine ⟨[_, _, _], rfl, ?_⟩
    rw [RL]; refine ⟨[], [], _, _, rfl, rfl, by rw [R]; exact ⟨rfl, rfl⟩, ?_⟩
    rw [RL]; refine ⟨[], [], _, _, rfl, rfl, by rw [R]; exact ⟨rfl, rfl⟩, ?_⟩
    rw [RL]; exact ⟨[], [], _, _, rfl, rfl, by rw [R]; exact ⟨rfl, rfl⟩, by rw [RL]; exact ⟨rfl, rfl⟩⟩
  refine (s_impl_DeedText d w forb _ [] hr (by simp) (by simp) ⟨hforb, hg⟩).mono ?_
  rintro e w' ⟨v, S', rfl, hrl, _, _, hk⟩
  rw [RL] at hrl
  obtain ⟨S1, S2, u, us', _, huv, h1, _⟩ := hrl
  cases huv
  rw [R] at h1
  obtain ⟨_, rfl⟩ := h1
  exact ⟨rfl, kept_below hk⟩

theorem s_impl_JournalText (xs : List (Int × Int × Int)) (hx : xs.length ≤ 2000000) : SoundAt Tryd.prog 16 [.sl 1 3 (dsA xs)] (.v (tx (jText xs))) [.bot] := by
  intro w forb us S hr hnd hlt hforb
  rw [RL] at hr
  obtain ⟨S1, S2, u, us', rfl, rfl, h1, h2⟩ := hr
  rw [RL] at h2
  obtain ⟨rfl, rfl⟩ := h2
  rw [R] at h1
  obtain ⟨rfl, a, cap, rfl, hcap, h3⟩ := h1
  have fin : ∀ w', Below w.heap.size w w' → ∃ v S', Ending.returned (Value.string ⟨(jText xs).toArray⟩) = .returned v ∧ RL (cout w' S' forb) (.v (tx (jText xs)) :: [.bot]) S' (v :: [.slice a (dsA xs).length cap]) ∧ S'.Nodup ∧ (∀ x ∈ S', x < w'.heap.size ∧ (w.heap.size ≤ x ∨ x ∈ ([] ++ [] : List Nat))) ∧ Kept w.heap.size ([] ++ []) w w' := by
    intro w' hk
    refine ⟨_, [], rfl, ?_, by simp, by simp, kept_of_below _ hk⟩
    rw [RL]; refine ⟨[], [], _, _, rfl, rfl, by rw [R]; exact ⟨rfl, rfl⟩, ?_⟩
    rw [RL]; exact ⟨[], [], _, _, rfl, rfl, by rw [R], by rw [RL]; exact ⟨rfl, rfl⟩⟩
  by_cases h0 : xs = []
  · subst h0
    refine (j_none a cap w).mono ?_
    rintro e w' ⟨rfl, hb⟩
    exact fin _ hb
  · rcases h3 with h3 | ⟨b, p, us, rfl, hb, _, hc, _, hrl⟩
    · exact absurd (by simpa using congrArg List.length h3) h0
    have hus := RL_ds_us hrl
    subst hus
    have hg : GB w [] forb := hforb.2.mono (fun x hx => by simpa using hx)
    rw [dsA_length] at hcap
    have := j_calls xs b p cap w hx (fun wr d hk => dt_calls (hg.below hk) (fun x hx' => Nat.lt_of_lt_of_le (hforb.1 x hx') hk.size) d) (fun j d hd => by
      obtain ⟨c0, c1, c2⟩ := cellsD_get hd
      exact ⟨hc _ _ c0, hc _ _ c1, hc _ _ c2⟩) hb hcap
    simp only [dsA_length] at fin ⊢
    refine this.mono ?_
    rintro e w' ⟨rfl, hbl⟩
    exact fin w' hbl

end Go.Proofs.Dev

namespace Go.Proofs.Dev

-- 1 parameters, results [.t 2], 26 slots, modes [false]
@[simp] abbrev n_spec_JournalText : Nat := 14
def c_spec_JournalText_L0 : ACode := .seq (.seq (.reg [.m 5 4, .m 6 0, .n 7 6, .o 8 (.bin .lss 0) [.t 5, .t 7]]) <| .cond (.t 8) ( .skip) ( .exit 0)) <|
 .seq (.block 1 ( .seq (.seq (.reg [.m 11 0, .m 12 4, .o 13 (.iadr 3) [.t 11, .t 12], .la 14 3 13, .o 15 (.call 10 []) [.t 14], .o 16 (.bin .eql 1) [.t 15,
 .c (.v (.string ⟨#[]⟩))]]) <| .cond (.t 16) ( .seq (.reg [.o 2 .mv [.c (.v (.string ⟨#[]⟩))]]) <| .ret) ( .skip)) <| .reg [.m 17 3, .m 18 0, .m 19 4,
 .o 20 (.iadr 3) [.t 18, .t 19], .la 21 3 20, .o 22 (.call 10 []) [.t 21], .o 23 (.bin .add 1) [.t 17, .t 22], .o 24 (.bin .add 1) [.t 23,
 .c (.v (.string ⟨#[10]⟩))], .m 3 24])) <| .reg [.m 9 4, .o 10 (.bin .add 0) [.t 9, .k 1], .m 4 10]

def c_spec_JournalText : ACode := .seq (.reg [.o 2 .mv [.c (.v (.string ⟨#[]⟩))]]) <| .seq (.reg [.o 3 .mv [.c (.v (.string ⟨#[]⟩))]]) <|
 .seq (.seq (.reg [.o 4 .mv [.k 0]]) <| .block 0 ( .loop [(0, 3)] [0, 3, 4] c_spec_JournalText_L0)) <| .seq (.reg [.m 25 3, .m 2 25]) <| .ret

theorem k_spec_JournalText : cFn Tryd.prog n_spec_JournalText 26 [.t 2] c_spec_JournalText := ⟨Tryd.f14, _, Tryd.func14, rfl, by kernel_rfl, by kernel_rfl, by kernel_rfl, by kernel_rfl⟩

-- 2 parameters, results [.t 4], 12 slots, modes [false, false]
@[simp] abbrev n_laws_szDeedS : Nat := 13

def c_laws_szDeedS : ACode := .seq (.reg [.o 4 .mv [.k 0]]) <| .seq (.reg [.m 5 1, .m 6 0, .n 7 6, .o 8 (.bin .sub 0) [.t 5, .t 7], .m 1 8]) <|
 .seq (.seq (.reg [.m 9 1, .o 10 (.bin .lss 0) [.t 9, .k 0]]) <| .cond (.t 10) ( .seq (.reg [.o 4 .mv [.k (-1)]]) <| .ret) ( .skip)) <| .seq (.reg [.m 11 1,
 .m 4 11]) <| .ret

theorem k_laws_szDeedS : cFn Tryd.prog n_laws_szDeedS 12 [.t 4] c_laws_szDeedS := ⟨Tryd.f13, _, Tryd.func13, rfl, by kernel_rfl, by kernel_rfl, by kernel_rfl, by kernel_rfl⟩

-- 1 parameters, results [.t 2], 23 slots, modes [false]
@[simp] abbrev n_laws_toDeedS : Nat := 15
def c_laws_toDeedS_L0 : ACode := .seq (.seq (.reg [.m 8 4, .m 9 0, .n 10 9, .o 11 (.bin .lss 0) [.t 8, .t 10]]) <| .cond (.t 11) ( .skip) ( .exit 0)) <|
 .seq (.block 1 ( .reg [.m 14 3, .m 15 4, .m 16 0, .m 17 4, .o 18 (.iadr 3) [.t 16, .t 17], .la 19 3 18, .o 20 (.call 11 []) [.t 19], .o 21 (.iadr 3) [.t 14,
 .t 15], .s (.store 3) [.t 21, .t 20]])) <| .reg [.m 12 4, .o 13 (.bin .add 0) [.t 12, .k 1], .m 4 13]

def c_laws_toDeedS : ACode := .seq (.reg [.o 2 .mv [.c (.os 3 [])]]) <| .seq (.reg [.m 5 0, .n 6 5, .o 7 (.mksl 3 24 (.agg [.v (.int .i64 (0)),
 .v (.int .i64 (0)), .v (.int .i64 (0))])) [.t 6, .t 6], .m 3 7]) <| .seq (.seq (.reg [.o 4 .mv [.k 0]]) <| .block 0 ( .loop [(0, 3), (3, 3)] [0, 3,
 4] c_laws_toDeedS_L0)) <| .seq (.reg [.m 22 3, .m 2 22]) <| .ret

theorem k_laws_toDeedS : cFn Tryd.prog n_laws_toDeedS 23 [.t 2] c_laws_toDeedS := ⟨Tryd.f15, _, Tryd.func15, rfl, by kernel_rfl, by kernel_rfl, by kernel_rfl, by kernel_rfl⟩

-- 1 parameters, results [.t 2], 27 slots, modes [false]
@[simp] abbrev n_laws_FnExactJournalText : Nat := 4

def c_laws_FnExactJournalText : ACode := .seq (.reg [.o 2 .mv [.kb false]]) <| .seq (.reg [.o 3 .mv [.k 1048576]]) <| .seq (.reg [.m 7 0, .m 8 3,
 .o 9 (.call 13 []) [.t 7, .t 8], .m 3 9]) <| .seq (.seq (.reg [.m 10 3, .o 11 (.bin .lss 0) [.t 10, .k 0]]) <|
 .cond (.t 11) ( .seq (.reg [.o 2 .mv [.kb true]]) <| .ret) ( .skip)) <| .seq (.reg [.m 12 0, .o 13 (.call 15 []) [.t 12], .o 14 (.call 14 []) [.t 13],
 .m 4 14]) <| .seq (.reg [.m 15 0, .o 16 (.call 15 []) [.t 15], .m 5 16]) <| .seq (.reg [.m 17 5, .o 18 (.call 16 []) [.t 17], .m 6 18]) <|
 .seq (.seq (.reg [.m 19 6, .m 20 4, .o 21 (.bin .neq 1) [.t 19, .t 20]]) <| .cond (.t 21) ( .seq (.reg [.o 2 .mv [.kb false]]) <| .ret) ( .skip)) <|
 .seq (.seq (.reg [.m 22 5, .m 23 0, .o 24 (.call 15 []) [.t 23], .o 25 (.call 17 []) [.t 22, .t 24], .o 26 (.un .not) [.t 25]]) <|
 .cond (.t 26) ( .seq (.reg [.o 2 .mv [.kb false]]) <| .ret) ( .skip)) <| .seq (.reg [.o 2 .mv [.kb true]]) <| .ret

theorem k_laws_FnExactJournalText : cFn Tryd.prog n_laws_FnExactJournalText 27 [.t 2] c_laws_FnExactJournalText := ⟨Tryd.f4, _, Tryd.func4, rfl, by kernel_rfl, by kernel_rfl, by kernel_rfl, by kernel_rfl⟩

end Go.Proofs.Dev

namespace Go.Proofs.Dev
open Go.RowKit
set_option linter.unusedSimpArgs false
set_option maxRecDepth 100000

theorem jl_succ {xs : List (Int × Int × Int)} {k : Nat} (h : k < xs.length) : jTextL (xs.take (k + 1)) = jTextL (xs.take k) ++ dText xs[k] ++ [10] := by
  rw [List.take_succ_eq_append_getElem h]
  have : ∀ ys : List (Int × Int × Int), jTextL (ys ++ [xs[k]]) = jTextL ys ++ dText xs[k] ++ [10] := by
    intro ys
    induction ys with
    | nil => simp [jTextL]
    | cons y ys ih => show dText y ++ 10 :: jTextL (ys ++ [xs[k]]) = _; rw [ih]; simp [jTextL]
  exact this _

set_option maxHeartbeats 2000000 in
theorem s_spec_JournalText (xs : List (Int × Int × Int)) (hx : xs.length ≤ 2000000) : SoundAt Tryd.prog n_spec_JournalText [.sl 1 3 (dsA xs)] (.v (tx (jText xs))) [.bot] := by
  refine fn_ok (md := mdT) (ms := [false]) k_spec_JournalText (by simp) ?_
  simp [c_spec_JournalText]
  refine loop_by (fun m E H => ∃ k : Nat, m = xs.length - k ∧ k ≤ xs.length ∧ (xs.take k).all txtOk = true ∧ H = [] ∧ E = [(0, .sl 1 3 (dsA xs)), (3, .v (tx (jTextL (xs.take k)))), (4, .v (.int .i64 k))]) xs.length ⟨0, by simp [jTextL]⟩ ?_
  rintro J hJ m E H ⟨k, rfl, hk, ha, rfl, rfl⟩
  by_cases h : k < xs.length
  · have dt := s_spec_DeedText xs[k]
    have hlen := deed_len xs[k]
    have hl := jl_len (xs.take k)
    have hl2 : (xs.take k).length ≤ xs.length := by rw [List.length_take]; omega
    cases ht : txtOk xs[k] with
    | true =>
      have nx := hJ (xs.length - (k + 1)) [(0, .sl 1 3 (dsA xs)), (3, .v (tx (jTextL (xs.take (k + 1))))), (4, .v (.int .i64 ((k : Int) + 1)))] [] ⟨k + 1, rfl, h, by rw [List.take_succ_eq_append_getElem h, List.all_append, ha]; simp [ht], rfl, by simp⟩
      rw [jl_succ h] at nx
      have hne := (deed_text ht).2
      generalize dText xs[k] = t at *
      generalize jTextL (xs.take k) = o at *
      simp only [deedA] at dt
      simp [c_spec_JournalText_L0, h, aiadr_ds, deedC]
      refine call_on dt ?_
      simp [hne, h, aiadr_ds, deedC]
      refine call_on dt ?_
      simp
      rw [List.append_assoc] at nx
      exact ⟨by omega, by omega, by omega, _, by omega, nx⟩
    | false =>
      have hr : jText xs = [] := by
        rw [jText, if_neg]
        intro h2
        have := List.all_eq_true.1 h2 xs[k] (List.getElem_mem h)
        rw [ht] at this
        cases this
      rw [hr]
      rw [(dText_nil _).2 ht] at dt
      simp only [deedA] at dt
      simp [c_spec_JournalText_L0, h, aiadr_ds, deedC]
      refine call_on dt ?_
      simp
  · have : k = xs.length := by omega
    subst this
    rw [List.take_length] at ha ⊢
    have hr : jText xs = jTextL xs := if_pos ha
    rw [hr]
    simp [c_spec_JournalText_L0]

end Go.Proofs.Dev

namespace Go.Proofs.Dev
open Go.RowKit
set_option linter.unusedSimpArgs false
set_option maxRecDepth 100000

@[simp] theorem vwL_dsJ (c : Nat) : ∀ xs : List (Int × Int × Int), vwL c (dsA xs) = dsA xs
  | [] => rfl
  | x :: xs => by show vw c (deedA x) :: vwL c (dsA xs) = deedA x :: dsA xs; rw [vwL_dsJ c xs]; rfl
@[simp] theorem take_dsJ (xs : List (Int × Int × Int)) : (dsA xs).take xs.length = dsA xs := List.take_of_length_le (by simp)

theorem s_laws_szDeedS (xs : List (Int × Int × Int)) (left : Int) (h0 : 0 ≤ left) (h1 : left < 2 ^ 60) (hx : xs.length ≤ 9223372036854775807) :
    SoundAt Tryd.prog n_laws_szDeedS [.sl 1 3 (dsA xs), .v (.int .i64 left)] (.v (.int .i64 (if left < xs.length then -1 else left - xs.length))) [.bot, .bot] := by
  refine fn_ok (md := mdT) (ms := [false, false]) k_laws_szDeedS (by simp) ?_
  by_cases h : left < xs.length
  · have h2 : left - (xs.length : Int) < 0 := by omega
    simp [c_laws_szDeedS, h, h2]
    omega
  · have h2 : ¬ left - (xs.length : Int) < 0 := by omega
    simp [c_laws_szDeedS, h, h2]
    omega

theorem half_set {α : Type} (xs : List α) (z : α) {i : Nat} (h : i < xs.length) : (xs.take i ++ List.replicate (xs.length - i) z).set i xs[i] = xs.take (i + 1) ++ List.replicate (xs.length - (i + 1)) z := by
  have hl : (xs.take i).length = i := by rw [List.length_take]; omega
  rw [List.set_append_right _ _ (by omega), hl, Nat.sub_self, show xs.length - i = (xs.length - (i + 1)) + 1 by omega, List.replicate_succ, List.set_cons_zero, List.take_succ_eq_append_getElem h, List.append_assoc]
  rfl

theorem s_laws_toDeedS (xs : List (Int × Int × Int)) (hx : xs.length < 2 ^ 40) :
    SoundAt Tryd.prog n_laws_toDeedS [.sl 1 3 (dsA xs)] (.os 3 (dsA xs)) [.bot] := by
  refine fn_ok (md := mdT) (ms := [false]) k_laws_toDeedS (by simp) ?_
  have er : List.replicate xs.length (AV.agg [.v (.int .i64 0), .v (.int .i64 0), .v (.int .i64 0)]) = dsA (List.replicate xs.length (0, 0, 0)) := by simp [dsA, deedA]
  simp [c_laws_toDeedS, er]
  refine ⟨by omega, ?_⟩
  refine loop_by (fun m E H => ∃ i : Nat, m = xs.length - i ∧ i ≤ xs.length ∧ H = [some (.arr 3 (dsA (xs.take i ++ List.replicate (xs.length - i) (0, 0, 0))))] ∧ E = [(0, .sl 1 3 (dsA xs)), (3, .ls 3 0 0 xs.length), (4, .v (.int .i64 i))]) xs.length ⟨0, by simp⟩ ?_
  rintro J hJ m E H ⟨i, rfl, hi, rfl, rfl⟩
  have hlen : (xs.take i ++ List.replicate (xs.length - i) ((0 : Int), (0 : Int), (0 : Int))).length = xs.length := by simp; omega
  by_cases h : i < xs.length
  · have td := s_laws_toDeed xs[i]
    simp only [deedA] at td
    have st := half_set xs ((0 : Int), (0 : Int), (0 : Int)) h
    have nx := hJ (xs.length - (i + 1)) [(0, .sl 1 3 (dsA xs)), (3, .ls 3 0 0 xs.length), (4, .v (.int .i64 ((i : Int) + 1)))] _ ⟨i + 1, rfl, h, rfl, by simp⟩
    rw [← st] at nx
    generalize xs.take i ++ List.replicate (xs.length - i) ((0 : Int), (0 : Int), (0 : Int)) = ys at *
    simp [c_laws_toDeedS_L0, h, aiadr_ds, deedC]
    refine call_on td ?_
    simp [hlen, h, dsA_set']
    exact ⟨by omega, _, by omega, nx⟩
  · have : i = xs.length := by omega
    subst this
    simp [c_laws_toDeedS_L0]

set_option maxHeartbeats 1000000 in
theorem s_FnExactJournalText (xs : List (Int × Int × Int)) (hx : xs.length ≤ 9223372036854775807) : SoundAt Tryd.prog n_laws_FnExactJournalText [.sl 1 3 (dsA xs)] (.v (.bool true)) [.bot] := by
  refine fn_ok (md := mdT) (ms := [false]) k_laws_FnExactJournalText (by simp) ?_
  have sz := s_laws_szDeedS xs 1048576 (by omega) (by omega) hx
  by_cases h : (1048576 : Int) < (xs.length : Int)
  · rw [if_pos h] at sz
    simp [c_laws_FnExactJournalText]
    refine call_on sz ?_
    simp
  · rw [if_neg h] at sz
    have h2 : ¬ (1048576 : Int) - (xs.length : Int) < 0 := by omega
    have td := s_laws_toDeedS xs (by omega)
    have sp := s_spec_JournalText xs (by omega)
    have im := s_impl_JournalText xs (by omega)
    have eq := s_laws_eqDeedS xs xs (by omega)
    simp at eq
    generalize jText xs = t at *
    simp [c_laws_FnExactJournalText]
    refine call_on sz ?_
    simp [h2]
    refine call_on td ?_
    simp
    refine call_on sp ?_
    simp
    refine call_on td ?_
    simp
    refine call_on im ?_
    simp
    refine call_on td ?_
    simp
    refine call_on eq ?_
    simp

end Go.Proofs.Dev
