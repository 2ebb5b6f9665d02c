/- Contracts of the functions of the program over slots and rows, each proved against the program itself; no condition beyond those that each theorem names. -/
import Derived.Test.YtfkmfobbgoflgaaGreatDoorAW
import Derived.Test.YtfkmfobbgoflgaaGreatDoorAN
import Derived.Test.YtfkmfobbgoflgaaGreatDoorAL
import Derived.Test.YtfkmfobbgoflgaaGreatDoorAT
import Derived.Test.YtfkmfobbgoflgaaGreatDoorProg
import Derived.Test.YtfkmfobbgoflgaaGreatDoorAI
import Derived.Shelf.Strings.Search3
import Derived.Shelf.Strings.Cut
import Derived.Shelf.Strings.Split
import Derived.Shelf.Strconv.AtoiAll
import Derived.Test.YtfkmfobbgoflgaaGreatDoorAJ

set_option linter.unusedSimpArgs false
set_option linter.unusedVariables false

namespace Go.Proofs.Dev
set_option linter.unusedSimpArgs false
set_option maxRecDepth 100000

theorem s_laws_sameDeeds (xs ys : List (Int × Int × Int)) (ha : xs.length < 2 ^ 40) :
    SoundAt Tryz.prog n_laws_sameDeeds [.sl 1 3 (dsA xs), .sl 1 3 (dsA ys)] (.v (.bool (decide (xs = ys)))) [.bot, .bot] := by
  refine fn_ok (md := md3) (ms := [false, false]) k_laws_sameDeeds (by simp) ?_
  simp [c_laws_sameDeeds]
  refine ⟨fun h => ?_, fun hl => ?_⟩
  · intro e; subst e; exact h rfl
  refine loop_by (fun m E H => ∃ i : Nat, m = xs.length - i ∧ i ≤ xs.length ∧ xs.take i = ys.take i ∧ H = [] ∧ E = [(0, .sl 1 3 (dsA xs)), (1, .sl 1 3 (dsA ys)), (5, .v (.int .i64 i))]) xs.length ⟨0, by simp⟩ ?_
  rintro J hJ m E H ⟨i, rfl, hi, he, rfl, rfl⟩
  simp [c_laws_sameDeeds_L0]
  refine ⟨fun h => ?_, fun h => ?_⟩
  · have h2 : i < ys.length := by omega
    have key : xs[i] = ys[i] → xs.take (i + 1) = ys.take (i + 1) := by
      intro e
      rw [List.take_succ_eq_append_getElem h, List.take_succ_eq_append_getElem h2, he, e]
    have key2 : ¬ (xs[i] = ys[i]) → xs ≠ ys := fun e e2 => e (by subst e2; rfl)
    simp [h, h2, aiadr_ds, deedC]
    refine ⟨fun hn e => ?_, fun a b c => ⟨by omega, _, by omega, hJ _ _ _ ⟨i + 1, rfl, h, key (Prod.ext a (Prod.ext b c)), rfl, rfl⟩⟩⟩
    subst e
    simp at hn
  · have h1 : i = xs.length := by omega
    subst h1
    rw [List.take_length] at he
    rw [he]
    exact List.take_of_length_le (by omega)

end Go.Proofs.Dev

namespace Go.Proofs.Dev

-- 1 parameters, results [.t 2, .t 3], 42 slots, modes [false]
@[simp] abbrev n_impl_ReadJournal : Nat := 13
def c_impl_ReadJournal_L0 : ACode := .block 1 ( .seq (.reg [.m 12 0, .m 13 5, .o 14 (.sslice true false) [.t 12, .t 13], .o 15 (.call 51 []) [.t 14,
 .c (.v (.string ⟨#[10]⟩))], .m 11 15, .e 16 0 11, .e 17 1 11, .e 18 2 11, .m 6 16, .m 7 17, .m 8 18]) <| .seq (.reg [.m 20 6, .o 21 (.call 52 []) [.t 20],
 .m 19 21, .e 22 0 19, .e 23 1 19, .o 9 (.alloc dz) [], .s (.store 3) [.t 9, .t 22], .m 10 23]) <| .seq (.seq (.reg [.m 24 8, .o 25 (.un .not) [.t 24], .m 26 25,
 .mg 27 10 26 false, .g 28 (.un .not) [.t 27] 26 false, .o 29 .pick [.t 26, .kb true, .t 28]]) <| .cond (.t 29) ( .seq (.reg [.m 30 4,
 .o 31 (.call 53 []) [.t 30], .m 32 5, .m 2 31, .m 3 32]) <| .ret) ( .skip)) <| .seq (.reg [.m 33 4, .la 34 3 9, .o 35 (.bsl 3) [.t 34],
 .o 36 (.app 3 24 true) [.t 33, .t 35], .m 4 36]) <| .reg [.m 37 5, .m 38 6, .o 39 (.len true) [.t 38], .o 40 (.bin .add 0) [.t 39, .k 1],
 .o 41 (.bin .add 0) [.t 37, .t 40], .m 5 41])

def c_impl_ReadJournal : ACode := .seq (.reg [.o 2 .mv [.c (.os 3 [])], .o 3 .mv [.k 0]]) <| .seq (.reg [.o 4 .mv [.c (.os 3 [])]]) <|
 .seq (.reg [.o 5 .mv [.k 0]]) <| .block 0 ( .loop [(4, 3)] [0, 4, 5] c_impl_ReadJournal_L0)

theorem k_impl_ReadJournal : cFn Tryz.prog n_impl_ReadJournal 42 [.t 2, .t 3] c_impl_ReadJournal := ⟨Tryz.f13, _, Tryz.func13, rfl, by kernel_rfl, by kernel_rfl, by kernel_rfl, by kernel_rfl⟩

-- 1 parameters, results [.t 2], 9 slots, modes [true]
end Go.Proofs.Dev

namespace Go.Proofs.Dev
set_option linter.unusedSimpArgs false
set_option maxRecDepth 100000

@[simp] def mdT (_ : Nat) : List Bool := []

theorem numT_lo {n : Int} (h : n < 10) : numT n = [b8 (48 + n)] := by simp [numT, h]
theorem numT_hi {n : Int} (h : ¬ n < 10) : numT n = [b8 (48 + n / 10), b8 (48 + n % 10)] := by simp [numT, h]

theorem num_lo (n : Int) (h0 : 0 ≤ n) (h1 : n < 10) : SoundAt Tryz.prog n_spec_l1Number [.v (.int .i64 n)] (.v (tx (numT n))) [.bot] := by
  refine fn_ok (md := mdT) (ms := [false]) k_spec_l1Number (by simp) ?_
  have hn : ¬ n < 0 := by omega
  simp [c_spec_l1Number, hn, h1, numT_lo h1, b8, astr, u8L]
  omega

theorem s_spec_l1Number (n : Int) (h0 : 0 ≤ n) (h1 : n < 100) : SoundAt Tryz.prog n_spec_l1Number [.v (.int .i64 n)] (.v (tx (numT n))) [.bot] := by
  by_cases h : n < 10
  · exact num_lo n h0 h
  refine fn_ok (md := mdT) (ms := [false]) k_spec_l1Number (by simp) ?_
  have hn : ¬ n < 0 := by omega
  have c := num_lo (n / 10) (by omega) (by omega)
  rw [numT_lo (by omega)] at c
  simp [c_spec_l1Number, hn, h, astr, u8L]
  (repeat' first | omega | apply And.intro) <;>
  · refine call_on c ?_
    simp [h, numT_hi h, b8, astr, u8L]
    try omega

end Go.Proofs.Dev

namespace Go.Proofs.Dev
set_option linter.unusedSimpArgs false
set_option maxRecDepth 100000

theorem s_impl_Deed_needsY (d : Int × Int × Int) : SoundAt Tryz.prog n_impl_Deed_needs [deedA d] (.v (.bool (needD d))) [.bot] := by
  obtain ⟨k, s, w⟩ := d
  refine fn_ok (md := mdT) (ms := [false]) k_impl_Deed_needs (by simp [deedA]) ?_
  by_cases h0 : k = 0 <;> by_cases h1 : k = 1 <;> by_cases h2 : k = 2 <;> by_cases h3 : k = 3 <;> by_cases h4 : k = 4 <;> by_cases hs : s = 0 <;> by_cases hw : w = 0 <;> first | (exfalso; omega) | (simp [c_impl_Deed_needs, deedA, needD, h0, h1, h2, h3, h4, hs, hw])

theorem s_spec_l10NamedY (d : Int × Int × Int) : SoundAt Tryz.prog n_spec_l10Named [deedA d] (.v (.bool (needD d))) [.bot] := by
  obtain ⟨k, s, w⟩ := d
  refine fn_ok (md := mdT) (ms := [false]) k_spec_l10Named (by simp [deedA]) ?_
  by_cases h0 : k = 0 <;> by_cases h1 : k = 1 <;> by_cases h2 : k = 2 <;> by_cases h3 : k = 3 <;> by_cases h4 : k = 4 <;> by_cases hs : s = 0 <;> by_cases hw : w = 0 <;> first | (exfalso; omega) | (simp [c_spec_l10Named, deedA, needD, h0, h1, h2, h3, h4, hs, hw])

abbrev digL : List UInt8 := [48, 49, 50, 51, 52, 53, 54, 55, 56, 57, 97, 98, 99, 100, 101, 102, 103, 104, 105, 106, 107, 108, 109, 110, 111, 112, 113, 114, 115, 116, 117, 118, 119, 120, 121, 122]
theorem small_lo : ∀ n : _root_.Fin 10, List.take (n.val + 1 - n.val) (List.drop n.val digL) = numT n.val := by decide +kernel
abbrev smalL : List UInt8 := [48, 48, 48, 49, 48, 50, 48, 51, 48, 52, 48, 53, 48, 54, 48, 55, 48, 56, 48, 57, 49, 48, 49, 49, 49, 50, 49, 51, 49, 52, 49, 53, 49, 54, 49, 55, 49, 56, 49, 57, 50, 48, 50, 49, 50, 50, 50, 51, 50, 52, 50, 53, 50, 54, 50, 55, 50, 56, 50, 57, 51, 48, 51, 49, 51, 50, 51, 51, 51, 52, 51, 53, 51, 54, 51, 55, 51, 56, 51, 57, 52, 48, 52, 49, 52, 50, 52, 51, 52, 52, 52, 53, 52, 54, 52, 55, 52, 56, 52, 57, 53, 48, 53, 49, 53, 50, 53, 51, 53, 52, 53, 53, 53, 54, 53, 55, 53, 56, 53, 57, 54, 48, 54, 49, 54, 50, 54, 51, 54, 52, 54, 53, 54, 54, 54, 55, 54, 56, 54, 57, 55, 48, 55, 49, 55, 50, 55, 51, 55, 52, 55, 53, 55, 54, 55, 55, 55, 56, 55, 57, 56, 48, 56, 49, 56, 50, 56, 51, 56, 52, 56, 53, 56, 54, 56, 55, 56, 56, 56, 57, 57, 48, 57, 49, 57, 50, 57, 51, 57, 52, 57, 53, 57, 54, 57, 55, 57, 56, 57, 57]
theorem small_hi : ∀ n : _root_.Fin 100, (if n.val < 10 then true else decide (List.take (n.val * 2 + 2 - n.val * 2) (List.drop (n.val * 2) smalL) = numT n.val)) = true := by decide +kernel

theorem s_small (n : Nat) (h1 : n < 100) : SoundAt Tryz.prog n_internalstrconv_small [.v (.int .i64 (n : Int))] (.v (tx (numT n))) [.bot] := by
  refine fn_ok (md := mdT) (ms := [false]) k_internalstrconv_small (by simp) ?_
  by_cases h : n < 10
  · have e : (n : Int) < 10 := by omega
    have t := small_lo ⟨n, h⟩
    have e1 : ((n : Int) + 1).toNat = n + 1 := by omega
    simp only at t
    rw [← t]
    have p1 : (0 : Int) ≤ (n : Int) + 1 := by omega
    have p2 : n + 1 ≤ 36 := by omega
    simp [c_internalstrconv_small, e, e1, p1, p2]
    omega
  · have e : ¬ (n : Int) < 10 := by omega
    have t := small_hi ⟨n, h1⟩
    rw [if_neg h] at t
    have t' := of_decide_eq_true t
    have e1 : ((n : Int) * 2).toNat = n * 2 := by omega
    have e2 : ((n : Int) * 2 + 2).toNat = n * 2 + 2 := by omega
    rw [← t']
    have p1 : (0 : Int) ≤ (n : Int) * 2 + 2 := by omega
    have p0 : (0 : Int) ≤ (n : Int) * 2 := by omega
    have p2 : n * 2 + 2 ≤ 200 := by omega
    simp [c_internalstrconv_small, e, e1, e2, p0, p1, p2]
    omega

theorem s_FormatInt (n : Nat) (h1 : n < 100) : SoundAt Tryz.prog n_internalstrconv_FormatInt [.v (.int .i64 (n : Int)), .v (.int .i64 10)] (.v (tx (numT n))) [.bot, .bot] := by
  refine fn_ok (md := mdT) (ms := [false, false]) k_internalstrconv_FormatInt (by simp) ?_
  have e : (n : Int) < 100 := by omega
  have e0 : (0 : Int) ≤ n := by omega
  simp [c_internalstrconv_FormatInt, e, e0]
  refine call_on (s_small n h1) ?_
  simp

theorem s_Itoa0 (n : Nat) (h1 : n < 100) : SoundAt Tryz.prog n_internalstrconv_Itoa [.v (.int .i64 (n : Int))] (.v (tx (numT n))) [.bot] := by
  refine fn_ok (md := mdT) (ms := [false]) k_internalstrconv_Itoa (by simp) ?_
  simp [c_internalstrconv_Itoa]
  refine call_on (s_FormatInt n h1) ?_
  simp

theorem s_strconv_Itoa (n : Int) (h0 : 0 ≤ n) (h1 : n < 100) : SoundAt Tryz.prog n_strconv_Itoa [.v (.int .i64 n)] (.v (tx (numT n))) [.bot] := by
  obtain ⟨k, rfl⟩ : ∃ k : Nat, n = k := ⟨n.toNat, by omega⟩
  refine fn_ok (md := mdT) (ms := [false]) k_strconv_Itoa (by simp) ?_
  simp [c_strconv_Itoa]
  refine call_on (s_Itoa0 k (by omega)) ?_
  simp

theorem s_spec_l10Letter (w : Int) : SoundAt Tryz.prog n_spec_l10Letter [.v (.int .i64 w)] (.v (tx (letT w))) [.bot] := by
  refine fn_ok (md := mdT) (ms := [false]) k_spec_l10Letter (by simp) ?_
  simp [c_spec_l10Letter]
  refine call_on (s_spec_l1In w 1 4) ?_
  by_cases h1 : w = 1
  · subst h1; simp [letT]
  by_cases h2 : w = 2
  · subst h2; simp [letT]
  by_cases h3 : w = 3
  · subst h3; simp [letT]
  by_cases h4 : w = 4
  · subst h4; simp [letT]
  have h : ¬ (1 ≤ w ∧ w ≤ 4) := by omega
  simp [letT, h1, h2, h3, h4, h]

end Go.Proofs.Dev

namespace Go.Proofs.Dev
set_option linter.unusedSimpArgs false
set_option maxRecDepth 100000

theorem dText_no {d : Int × Int × Int} (h : txtOk d = false) : dText d = [] := by simp [dText, h]
theorem need_kind {k s w : Int} (h : needD (k, s, w) = true) : k = 0 ∨ k = 1 ∨ k = 2 ∨ k = 3 ∨ k = 4 := by
  simp only [needD] at h
  split at h
  · left; assumption
  · split at h
    · rename_i h2; rcases h2 with h2 | h2 <;> simp [h2]
    · split at h
      · rename_i h2; rcases h2 with h2 | h2 <;> simp [h2]
      · cases h
theorem numT_le (n : Int) : (numT n).length ≤ 2 := by unfold numT; split <;> simp
theorem letT_le (n : Int) : (letT n).length ≤ 1 := by unfold letT; (repeat' split) <;> simp
theorem letT_nil (w : Int) : letT w = [] ↔ ¬ (1 ≤ w ∧ w ≤ 4) := by
  unfold letT
  by_cases h1 : w = 1
  · simp [h1]
  by_cases h2 : w = 2
  · simp [h2]
  by_cases h3 : w = 3
  · simp [h3]
  by_cases h4 : w = 4
  · simp [h4]
  simp [h1, h2, h3, h4]
  omega

set_option maxHeartbeats 4000000 in
theorem s_spec_DeedText (d : Int × Int × Int) : SoundAt Tryz.prog n_spec_DeedText [deedA d] (.v (tx (dText d))) [.bot] := by
  obtain ⟨k, s, w⟩ := d
  have nd := s_spec_l10NamedY (k, s, w)
  simp only [deedA] at nd
  have li := s_spec_l1In s 0 99
  have le := s_spec_l10Letter w
  refine fn_ok (md := mdT) (ms := [false]) k_spec_DeedText (by simp [deedA]) ?_
  cases hn : needD (k, s, w) with
  | false =>
    rw [hn] at nd
    rw [dText_no (by simp [txtOk, hn])]
    simp [c_spec_DeedText, deedA]
    refine call_on nd ?_
    simp
  | true =>
  rw [hn] at nd
  by_cases hs : 0 ≤ s ∧ s ≤ 99
  case neg =>
    rw [dText_no (by simp [txtOk, hs])]
    simp [c_spec_DeedText, deedA]
    refine call_on nd ?_
    simp
    refine call_on li ?_
    simp [hs]
  have nu := s_spec_l1Number s hs.1 (by omega)
  have n2 := numT_le s
  have l1 := letT_le w
  have lk := need_kind hn
  simp [c_spec_DeedText, deedA]
  refine call_on nd ?_
  simp
  refine call_on li ?_
  simp [hs]
  rcases lk with rfl | rfl | rfl | rfl | rfl
  · simp
    refine call_on nu ?_
    simp
    refine ⟨by omega, ?_⟩
    refine call_on le ?_
    by_cases hw : 1 ≤ w ∧ w ≤ 4
    · have hne : letT w ≠ [] := by rw [Ne, letT_nil]; simpa using hw
      have e : dText (0, s, w) = wordK 0 ++ (32 :: numT s ++ 32 :: letT w) := by simp [dText, txtOk, hn, hs, hw]
      rw [e]
      simp [hne]
      refine ⟨by omega, ?_⟩
      refine call_on le ?_
      simp [wordK]
      omega
    · have hne : letT w = [] := by rw [letT_nil]; exact hw
      rw [dText_no (by simp [txtOk, hw])]
      simp [hne]
  all_goals
    have e := hn
    simp [needD] at e
  · have e' : dText (1, s, w) = wordK 1 ++ 32 :: numT s := by simp [dText, txtOk, hn, hs]
    rw [e']
    simp
    refine call_on nu ?_
    simp [wordK]
    omega
  · have e' : dText (2, s, w) = wordK 2 ++ 32 :: numT s := by simp [dText, txtOk, hn, hs]
    rw [e']
    simp
    refine call_on nu ?_
    simp [wordK]
    omega
  · have e' : dText (3, s, w) = wordK 3 := by simp [dText, txtOk, hn, hs]
    rw [e']
    simp [wordK]
  · have e' : dText (4, s, w) = wordK 4 := by simp [dText, txtOk, hn, hs]
    rw [e']
    simp [wordK]

set_option maxHeartbeats 4000000 in
theorem s_impl_DeedText (d : Int × Int × Int) : SoundAt Tryz.prog n_impl_DeedText [deedA d] (.v (tx (dText d))) [.bot] := by
  obtain ⟨k, s, w⟩ := d
  have nd := s_impl_Deed_needsY (k, s, w)
  simp only [deedA] at nd
  have li := s_impl_in s 0 99
  have lw := s_impl_in w 1 4
  refine fn_ok (md := mdT) (ms := [false]) k_impl_DeedText (by simp [deedA]) ?_
  cases hn : needD (k, s, w) with
  | false =>
    rw [hn] at nd
    rw [dText_no (by simp [txtOk, hn])]
    simp [c_impl_DeedText, deedA]
    refine call_on nd ?_
    simp
  | true =>
  rw [hn] at nd
  by_cases hs : 0 ≤ s ∧ s ≤ 99
  case neg =>
    rw [dText_no (by simp [txtOk, hs])]
    simp [c_impl_DeedText, deedA]
    refine call_on nd ?_
    simp
    refine call_on li ?_
    simp [hs]
  have nu := s_strconv_Itoa s hs.1 (by omega)
  have n2 := numT_le s
  have lk := need_kind hn
  simp [c_impl_DeedText, deedA]
  refine call_on nd ?_
  simp
  refine call_on li ?_
  simp [hs]
  rcases lk with rfl | rfl | rfl | rfl | rfl
  · simp [aiadr]
    refine call_on lw ?_
    by_cases hw : 1 ≤ w ∧ w ≤ 4
    · have e : dText (0, s, w) = wordK 0 ++ (32 :: numT s ++ 32 :: letT w) := by simp [dText, txtOk, hn, hs, hw]
      rw [e]
      have h4 : w = 1 ∨ w = 2 ∨ w = 3 ∨ w = 4 := by omega
      simp [hw, aiadr]
      refine call_on nu ?_
      rcases h4 with rfl | rfl | rfl | rfl <;>
      · simp [wordK, letT]
        omega
    · rw [dText_no (by simp [txtOk, hw])]
      simp [hw]
  all_goals
    have e := hn
    simp [needD] at e
  · have e' : dText (1, s, w) = wordK 1 ++ 32 :: numT s := by simp [dText, txtOk, hn, hs]
    rw [e']
    simp [aiadr]
    refine call_on nu ?_
    simp [wordK]
    omega
  · have e' : dText (2, s, w) = wordK 2 ++ 32 :: numT s := by simp [dText, txtOk, hn, hs]
    rw [e']
    simp [aiadr]
    refine call_on nu ?_
    simp [wordK]
    omega
  · have e' : dText (3, s, w) = wordK 3 := by simp [dText, txtOk, hn, hs]
    rw [e']
    simp [wordK, aiadr]
  · have e' : dText (4, s, w) = wordK 4 := by simp [dText, txtOk, hn, hs]
    rw [e']
    simp [wordK, aiadr]

end Go.Proofs.Dev

namespace Go.Proofs.Dev
open Go.RowKit
set_option linter.unusedSimpArgs false
set_option maxRecDepth 100000

end Go.Proofs.Dev

namespace Go.Proofs.Dev
set_option linter.unusedSimpArgs false
set_option maxRecDepth 100000

@[simp] def mdJ (f : Nat) : List Bool := if f = 999999 then [true, false] else if f = n_slices_Clip_impl_Deed_impl_Deed then [true] else []

theorem s_slices_Clip_DeedY (xs : List (Int × Int × Int)) : SoundAt Tryz.prog n_slices_Clip_impl_Deed_impl_Deed [.os 3 (dsA xs)] (.os 3 (dsA xs)) [.bot] := by
  refine fn_ok (md := mdJ) (ms := [false]) k_slices_Clip_impl_Deed_impl_Deed (by simp) ?_
  simp [c_slices_Clip_impl_Deed_impl_Deed]
  exact List.take_of_length_le (by simp)

end Go.Proofs.Dev

namespace Go.Proofs
open Go.Shelf
def Tryz.laysC172_ren : Go.Shelf.Ren := ⟨fun | 172 => 114 | 244 => 161 | 245 => 162 | 247 => 215 | 279 => 216 | 280 => 217 | 281 => 218 | 282 => 219 | 287 => 251 | 316 => 252 | 171 => 64 | 205 => 253 | 321 => 276 | 322 => 277 | 243 => 134 | 246 => 187 | 283 => 230 | 284 => 231 | 285 => 232 | 286 => 233 | 129 => 260 | 317 => 259 | 318 => 261 | 319 => 262 | 320 => 263 | 337 => 279 | 338 => 280 | n => n, fun | 9 => 9 | 3 => 3 | 75 => 76 | 76 => 77 | 4 => 4 | 5 => 5 | 167 => 179 | 37 => 22 | 0 => 0 | 85 => 180 | 2 => 2 | 168 => 182 | 53 => 189 | 175 => 212 | 46 => 177 | 210 => 215 | 127 => 123 | 145 => 235 | 143 => 233 | 21 => 21 | 171 => 188 | 173 => 192 | 212 => 220 | 51 => 207 | 20 => 20 | 213 => 221 | 232 => 247 | 233 => 248 | 80 => 79 | n => n, fun | 15 => 2 | 16 => 3 | 17 => 4 | 18 => 7 | 19 => 8 | n => n⟩
theorem Tryz.laysC172 : Go.Proofs.LaysC.n172 Tryz.prog Tryz.laysC172_ren := {
  mixed := by kernel_rfl
  f129 := Tryz.func260.trans (congrArg some (by kernel_rfl))
  f171 := Tryz.func64.trans (congrArg some (by kernel_rfl))
  f172 := Tryz.func114.trans (congrArg some (by kernel_rfl))
  f205 := Tryz.func253.trans (congrArg some (by kernel_rfl))
  f243 := Tryz.func134.trans (congrArg some (by kernel_rfl))
  f244 := Tryz.func161.trans (congrArg some (by kernel_rfl))
  f245 := Tryz.func162.trans (congrArg some (by kernel_rfl))
  f246 := Tryz.func187.trans (congrArg some (by kernel_rfl))
  f247 := Tryz.func215.trans (congrArg some (by kernel_rfl))
  f279 := Tryz.func216.trans (congrArg some (by kernel_rfl))
  f280 := Tryz.func217.trans (congrArg some (by kernel_rfl))
  f281 := Tryz.func218.trans (congrArg some (by kernel_rfl))
  f282 := Tryz.func219.trans (congrArg some (by kernel_rfl))
  f283 := Tryz.func230.trans (congrArg some (by kernel_rfl))
  f284 := Tryz.func231.trans (congrArg some (by kernel_rfl))
  f285 := Tryz.func232.trans (congrArg some (by kernel_rfl))
  f286 := Tryz.func233.trans (congrArg some (by kernel_rfl))
  f287 := Tryz.func251.trans (congrArg some (by kernel_rfl))
  f316 := Tryz.func252.trans (congrArg some (by kernel_rfl))
  f317 := Tryz.func259.trans (congrArg some (by kernel_rfl))
  f318 := Tryz.func261.trans (congrArg some (by kernel_rfl))
  f319 := Tryz.func262.trans (congrArg some (by kernel_rfl))
  f320 := Tryz.func263.trans (congrArg some (by kernel_rfl))
  f321 := Tryz.func276.trans (congrArg some (by kernel_rfl))
  f322 := Tryz.func277.trans (congrArg some (by kernel_rfl))
  f337 := Tryz.func279.trans (congrArg some (by kernel_rfl))
  f338 := Tryz.func280.trans (congrArg some (by kernel_rfl))
  t0 := Tryz.underlying0
  a0 := Tryz.isAgg0
  z0 := Tryz.sizeOf0
  v0 := Tryz.zeroValue0
  t2 := Tryz.underlying2
  a2 := Tryz.isAgg2
  z2 := Tryz.sizeOf2
  v2 := Tryz.zeroValue2
  t3 := Tryz.underlying3
  a3 := Tryz.isAgg3
  z3 := Tryz.sizeOf3
  v3 := Tryz.zeroValue3
  t4 := Tryz.underlying4
  a4 := Tryz.isAgg4
  z4 := Tryz.sizeOf4
  v4 := Tryz.zeroValue4
  t5 := Tryz.underlying5
  a5 := Tryz.isAgg5
  z5 := Tryz.sizeOf5
  v5 := Tryz.zeroValue5
  t9 := Tryz.underlying9
  a9 := Tryz.isAgg9
  z9 := Tryz.sizeOf9
  v9 := Tryz.zeroValue9
  t20 := Tryz.underlying20
  a20 := Tryz.isAgg20
  z20 := Tryz.sizeOf20
  v20 := Tryz.zeroValue20
  t21 := Tryz.underlying21
  a21 := Tryz.isAgg21
  z21 := Tryz.sizeOf21
  v21 := Tryz.zeroValue21
  t37 := Tryz.underlying22
  a37 := Tryz.isAgg22
  z37 := Tryz.sizeOf22
  v37 := Tryz.zeroValue22
  t46 := Tryz.underlying177
  a46 := Tryz.isAgg177
  z46 := Tryz.sizeOf177
  v46 := Tryz.zeroValue177
  t51 := Tryz.underlying207
  a51 := Tryz.isAgg207
  z51 := Tryz.sizeOf207
  v51 := Tryz.zeroValue207
  t53 := Tryz.underlying189
  a53 := Tryz.isAgg189
  z53 := Tryz.sizeOf189
  v53 := Tryz.zeroValue189
  t75 := Tryz.underlying76
  a75 := Tryz.isAgg76
  z75 := Tryz.sizeOf76
  v75 := Tryz.zeroValue76
  t76 := Tryz.underlying77
  a76 := Tryz.isAgg77
  z76 := Tryz.sizeOf77
  v76 := Tryz.zeroValue77
  t85 := Tryz.underlying180
  a85 := Tryz.isAgg180
  z85 := Tryz.sizeOf180
  v85 := Tryz.zeroValue180
  t127 := Tryz.underlying123
  a127 := Tryz.isAgg123
  z127 := Tryz.sizeOf123
  v127 := Tryz.zeroValue123
  t143 := Tryz.underlying233
  a143 := Tryz.isAgg233
  z143 := Tryz.sizeOf233
  v143 := Tryz.zeroValue233
  t145 := Tryz.underlying235
  a145 := Tryz.isAgg235
  z145 := Tryz.sizeOf235
  v145 := Tryz.zeroValue235
  t167 := Tryz.underlying179
  a167 := Tryz.isAgg179
  z167 := Tryz.sizeOf179
  v167 := Tryz.zeroValue179
  t168 := Tryz.underlying182
  a168 := Tryz.isAgg182
  z168 := Tryz.sizeOf182
  v168 := Tryz.zeroValue182
  t171 := Tryz.underlying188
  a171 := Tryz.isAgg188
  z171 := Tryz.sizeOf188
  v171 := Tryz.zeroValue188
  t173 := Tryz.underlying192
  a173 := Tryz.isAgg192
  z173 := Tryz.sizeOf192
  v173 := Tryz.zeroValue192
  t175 := Tryz.underlying212
  a175 := Tryz.isAgg212
  z175 := Tryz.sizeOf212
  v175 := Tryz.zeroValue212
  t210 := Tryz.underlying215
  a210 := Tryz.isAgg215
  z210 := Tryz.sizeOf215
  v210 := Tryz.zeroValue215
  t212 := Tryz.underlying220
  a212 := Tryz.isAgg220
  z212 := Tryz.sizeOf220
  v212 := Tryz.zeroValue220
  t213 := Tryz.underlying221
  a213 := Tryz.isAgg221
  z213 := Tryz.sizeOf221
  t232 := Tryz.underlying247
  a232 := Tryz.isAgg247
  z232 := Tryz.sizeOf247
  v232 := Tryz.zeroValue247
  t233 := Tryz.underlying248
  a233 := Tryz.isAgg248
  z233 := Tryz.sizeOf248
  v233 := Tryz.zeroValue248
  g15 := by kernel_rfl
  g16 := by kernel_rfl
  g17 := by kernel_rfl
  g18 := by kernel_rfl
  g19 := by kernel_rfl
  t80 := Tryz.underlying79
  a80 := Tryz.isAgg79
  z80 := Tryz.sizeOf79
  v80 := Tryz.zeroValue79
  i0 := by kernel_rfl
  i2 := by kernel_rfl
  i3 := by kernel_rfl
  i4 := by kernel_rfl
  i5 := by kernel_rfl
  i9 := by kernel_rfl
  i20 := by kernel_rfl
  i21 := by kernel_rfl
  i37 := by kernel_rfl
  i46 := by kernel_rfl
  i51 := by kernel_rfl
  i53 := by kernel_rfl
  i75 := by kernel_rfl
  i76 := by kernel_rfl
  i80 := by kernel_rfl
  i85 := by kernel_rfl
  i127 := by kernel_rfl
  i143 := by kernel_rfl
  i145 := by kernel_rfl
  i167 := by kernel_rfl
  i168 := by kernel_rfl
  i171 := by kernel_rfl
  i173 := by kernel_rfl
  i175 := by kernel_rfl
  i210 := by kernel_rfl
  i212 := by kernel_rfl
  i232 := by kernel_rfl
  i233 := by kernel_rfl
  m15 := by kernel_rfl
  m16 := by kernel_rfl
  m17 := by kernel_rfl
  m18 := by kernel_rfl
  m19 := by kernel_rfl
  c0 := by kernel_rfl
  c2 := by kernel_rfl
  c3 := by kernel_rfl
  c4 := by kernel_rfl
  c5 := by kernel_rfl
  c9 := by kernel_rfl
  c20 := by kernel_rfl
  c21 := by kernel_rfl
  c37 := by kernel_rfl
  c46 := by kernel_rfl
  c51 := by kernel_rfl
  c53 := by kernel_rfl
  c75 := by kernel_rfl
  c76 := by kernel_rfl
  c80 := by kernel_rfl
  c85 := by kernel_rfl
  c127 := by kernel_rfl
  c143 := by kernel_rfl
  c145 := by kernel_rfl
  c167 := by kernel_rfl
  c168 := by kernel_rfl
  c171 := by kernel_rfl
  c173 := by kernel_rfl
  c175 := by kernel_rfl
  c210 := by kernel_rfl
  c212 := by kernel_rfl
  c213 := by kernel_rfl
  c232 := by kernel_rfl
  c233 := by kernel_rfl }
open Go.RowKit in
/-- strconv.Atoi, AT EVERY STRING THAT SPELLS AN int ('Lib.atoiAll .. = .ok v'; of whatever length: leading zeros count): v, AND NO ERROR. The world: as it was, or with the one new row that '[]byte(..)' lays. (LAID: no walk: one application.) -/
theorem Tryz.strconv_Atoi_ok (s : ByteArray) (hmax : s.size ≤ 9223372036854775806) (v : Int) (h : Lib.atoiAll s.data.toList = .ok v) (w : World) :
    Calls Tryz.prog 114 #[.string s] w fun e w' => e = .returned (.tuple #[.int .i64 v, .nilIface]) ∧ (w' = w ∨ ∃ t, w' = Lib.bytesWorld w 5 t) := Any.strconv_Atoi_ok Tryz.laysC172 s hmax v h w
open Go.RowKit in
/-- strconv.Atoi, AT EVERY NUMERAL THAT NO int HOLDS ('.range'): THE GREATEST OR THE LEAST int, BY THE SIGN ('Lib.atoiSat'), AND AN ERROR THAT IS NOT nil: a *NumError in a new block N: {Func: "Atoi", Num: s's bytes, Err: what the variable ErrRange holds}. Of what was there nothing has turned. (LAID: no walk: one application.) -/
theorem Tryz.strconv_Atoi_range (s : ByteArray) (hlim : s.size ≤ 281474976710656) (h : Lib.atoiAll s.data.toList = .range) (ev : Value) (w : World) (hv : w.cell? ⟨3, 0, none⟩ = some ev) (hev : ev = .nilIface ∨ ∃ te pe, ev = .iface te pe) :
    Calls Tryz.prog 114 #[.string s] w fun e w' => ∃ N, e = .returned (.tuple #[.int .i64 (Lib.atoiSat s.data.toList), .iface 182 (.pointer (some ⟨N, 0, none⟩))]) ∧ w.heap.size ≤ N ∧ w'.heap[N]? = some (.cells #[.string ⟨#[65, 116, 111, 105]⟩, .string s, ev] 215 (0, 0)) ∧ Below w.heap.size w w' := Any.strconv_Atoi_range Tryz.laysC172 s hlim h ev w hv hev
def Tryz.lays143_ren : Go.Shelf.Ren := ⟨fun | 143 => 115 | 219 => 159 | 217 => 209 | 225 => 210 | 224 => 211 | 267 => 212 | 266 => 246 | 314 => 247 | n => n, fun | 9 => 9 | 3 => 3 | 4 => 4 | 5 => 5 | 46 => 177 | 146 => 208 | 51 => 207 | n => n, fun | 1 => 1 | n => n⟩
theorem Tryz.lays143 : Go.Proofs.Lays.n143 Tryz.prog Tryz.lays143_ren := {
  mixed := by kernel_rfl
  f143 := Tryz.func115.trans (congrArg some (by kernel_rfl))
  f217 := Tryz.func209.trans (congrArg some (by kernel_rfl))
  f219 := Tryz.func159.trans (congrArg some (by kernel_rfl))
  f224 := Tryz.func211.trans (congrArg some (by kernel_rfl))
  f225 := Tryz.func210.trans (congrArg some (by kernel_rfl))
  f266 := Tryz.func246.trans (congrArg some (by kernel_rfl))
  f267 := Tryz.func212.trans (congrArg some (by kernel_rfl))
  f314 := Tryz.func247.trans (congrArg some (by kernel_rfl))
  t3 := Tryz.underlying3
  a3 := Tryz.isAgg3
  z3 := Tryz.sizeOf3
  v3 := Tryz.zeroValue3
  t4 := Tryz.underlying4
  a4 := Tryz.isAgg4
  z4 := Tryz.sizeOf4
  v4 := Tryz.zeroValue4
  t5 := Tryz.underlying5
  a5 := Tryz.isAgg5
  z5 := Tryz.sizeOf5
  v5 := Tryz.zeroValue5
  t9 := Tryz.underlying9
  a9 := Tryz.isAgg9
  z9 := Tryz.sizeOf9
  v9 := Tryz.zeroValue9
  t46 := Tryz.underlying177
  a46 := Tryz.isAgg177
  z46 := Tryz.sizeOf177
  v46 := Tryz.zeroValue177
  t51 := Tryz.underlying207
  a51 := Tryz.isAgg207
  z51 := Tryz.sizeOf207
  v51 := Tryz.zeroValue207
  t146 := Tryz.underlying208
  a146 := Tryz.isAgg208
  z146 := Tryz.sizeOf208
  v146 := Tryz.zeroValue208
  g1 := by kernel_rfl }
open Go.RowKit Go.Lib in
/-- strings.Index: "Index returns the index of the first instance of substr in s, or -1 if substr is not present in s.": IT RETURNS 'Lib.index s substr'; the world is as it was. (LAID: no walk: one application.) -/
theorem Tryz.strings_Index (s sub : ByteArray) (m : Int) (w : World) (hs : s.size < 4294967281) (hm : w.cell? ⟨1, 0, none⟩ = some (.int .i64 m)) :
    Calls Tryz.prog 115 #[.string s, .string sub] w fun e w' => e = .returned (.int .i64 (Lib.index s.data.toList sub.data.toList)) ∧ w' = w := Any.strings_Index Tryz.lays143 s sub m w hs hm
def Tryz.lays145_ren : Go.Shelf.Ren := ⟨fun | 145 => 51 | 220 => 111 | 219 => 159 | 217 => 209 | 225 => 210 | 224 => 211 | 267 => 212 | 266 => 246 | 314 => 247 | n => n, fun | 9 => 9 | 4 => 4 | 59 => 82 | 3 => 3 | 5 => 5 | 46 => 177 | 146 => 208 | 51 => 207 | n => n, fun | 1 => 1 | n => n⟩
theorem Tryz.lays145 : Go.Proofs.Lays.n145 Tryz.prog Tryz.lays145_ren := {
  mixed := by kernel_rfl
  f145 := Tryz.func51.trans (congrArg some (by kernel_rfl))
  f217 := Tryz.func209.trans (congrArg some (by kernel_rfl))
  f219 := Tryz.func159.trans (congrArg some (by kernel_rfl))
  f220 := Tryz.func111.trans (congrArg some (by kernel_rfl))
  f224 := Tryz.func211.trans (congrArg some (by kernel_rfl))
  f225 := Tryz.func210.trans (congrArg some (by kernel_rfl))
  f266 := Tryz.func246.trans (congrArg some (by kernel_rfl))
  f267 := Tryz.func212.trans (congrArg some (by kernel_rfl))
  f314 := Tryz.func247.trans (congrArg some (by kernel_rfl))
  t3 := Tryz.underlying3
  a3 := Tryz.isAgg3
  z3 := Tryz.sizeOf3
  v3 := Tryz.zeroValue3
  t4 := Tryz.underlying4
  a4 := Tryz.isAgg4
  z4 := Tryz.sizeOf4
  v4 := Tryz.zeroValue4
  t5 := Tryz.underlying5
  a5 := Tryz.isAgg5
  z5 := Tryz.sizeOf5
  v5 := Tryz.zeroValue5
  t9 := Tryz.underlying9
  a9 := Tryz.isAgg9
  z9 := Tryz.sizeOf9
  v9 := Tryz.zeroValue9
  t46 := Tryz.underlying177
  a46 := Tryz.isAgg177
  z46 := Tryz.sizeOf177
  v46 := Tryz.zeroValue177
  t51 := Tryz.underlying207
  a51 := Tryz.isAgg207
  z51 := Tryz.sizeOf207
  v51 := Tryz.zeroValue207
  t59 := Tryz.underlying82
  a59 := Tryz.isAgg82
  z59 := Tryz.sizeOf82
  v59 := Tryz.zeroValue82
  t146 := Tryz.underlying208
  a146 := Tryz.isAgg208
  z146 := Tryz.sizeOf208
  v146 := Tryz.zeroValue208
  g1 := by kernel_rfl }
open Go.RowKit Go.Lib in
/-- strings.Cut: "Cut slices s around the first instance of sep, returning the text before and after sep. The found result reports whether sep appears in s. If sep does not appear in s, cut returns s, "", false.": IT RETURNS 'Lib.cut s sep'; the world is as it was but for the count of draws. (LAID: no walk: one application.) -/
theorem Tryz.strings_Cut (s sep : ByteArray) (m : Int) (w : World) (hs : s.size < 4294967281) (hm : w.cell? ⟨1, 0, none⟩ = some (.int .i64 m)) :
    Calls Tryz.prog 51 #[.string s, .string sep] w fun e w' => e = .returned (.tuple #[.string ⟨(Lib.cut s.data.toList sep.data.toList).1.toArray⟩, .string ⟨(Lib.cut s.data.toList sep.data.toList).2.1.toArray⟩, .bool (Lib.cut s.data.toList sep.data.toList).2.2]) ∧ ∃ n, w' = w.drewN n := Any.strings_Cut Tryz.lays145 s sep m w hs hm
def Tryz.lays146_ren : Go.Shelf.Ren := ⟨fun | 146 => 112 | 221 => 160 | 268 => 213 | 138 => 214 | 143 => 115 | 195 => 248 | 197 => 249 | 218 => 250 | 219 => 159 | 260 => 275 | 217 => 209 | 225 => 210 | 224 => 211 | 267 => 212 | 266 => 246 | 314 => 247 | n => n, fun | 9 => 9 | 31 => 58 | 3 => 3 | 4 => 4 | 0 => 0 | 105 => 210 | 21 => 21 | 5 => 5 | 46 => 177 | 119 => 242 | 139 => 245 | 138 => 244 | 146 => 208 | 51 => 207 | n => n, fun | 1 => 1 | 3 => 5 | 4 => 6 | n => n⟩
theorem Tryz.lays146 : Go.Proofs.Lays.n146 Tryz.prog Tryz.lays146_ren := {
  mixed := by kernel_rfl
  f138 := Tryz.func214.trans (congrArg some (by kernel_rfl))
  f143 := Tryz.func115.trans (congrArg some (by kernel_rfl))
  f146 := Tryz.func112.trans (congrArg some (by kernel_rfl))
  f195 := Tryz.func248.trans (congrArg some (by kernel_rfl))
  f197 := Tryz.func249.trans (congrArg some (by kernel_rfl))
  f217 := Tryz.func209.trans (congrArg some (by kernel_rfl))
  f218 := Tryz.func250.trans (congrArg some (by kernel_rfl))
  f219 := Tryz.func159.trans (congrArg some (by kernel_rfl))
  f221 := Tryz.func160.trans (congrArg some (by kernel_rfl))
  f224 := Tryz.func211.trans (congrArg some (by kernel_rfl))
  f225 := Tryz.func210.trans (congrArg some (by kernel_rfl))
  f260 := Tryz.func275.trans (congrArg some (by kernel_rfl))
  f266 := Tryz.func246.trans (congrArg some (by kernel_rfl))
  f267 := Tryz.func212.trans (congrArg some (by kernel_rfl))
  f268 := Tryz.func213.trans (congrArg some (by kernel_rfl))
  f314 := Tryz.func247.trans (congrArg some (by kernel_rfl))
  t0 := Tryz.underlying0
  a0 := Tryz.isAgg0
  z0 := Tryz.sizeOf0
  v0 := Tryz.zeroValue0
  t3 := Tryz.underlying3
  a3 := Tryz.isAgg3
  z3 := Tryz.sizeOf3
  v3 := Tryz.zeroValue3
  t4 := Tryz.underlying4
  a4 := Tryz.isAgg4
  z4 := Tryz.sizeOf4
  v4 := Tryz.zeroValue4
  t5 := Tryz.underlying5
  a5 := Tryz.isAgg5
  z5 := Tryz.sizeOf5
  v5 := Tryz.zeroValue5
  t9 := Tryz.underlying9
  a9 := Tryz.isAgg9
  z9 := Tryz.sizeOf9
  v9 := Tryz.zeroValue9
  t21 := Tryz.underlying21
  a21 := Tryz.isAgg21
  z21 := Tryz.sizeOf21
  v21 := Tryz.zeroValue21
  t31 := Tryz.underlying58
  a31 := Tryz.isAgg58
  z31 := Tryz.sizeOf58
  v31 := Tryz.zeroValue58
  t46 := Tryz.underlying177
  a46 := Tryz.isAgg177
  z46 := Tryz.sizeOf177
  v46 := Tryz.zeroValue177
  t51 := Tryz.underlying207
  a51 := Tryz.isAgg207
  z51 := Tryz.sizeOf207
  v51 := Tryz.zeroValue207
  t105 := Tryz.underlying210
  a105 := Tryz.isAgg210
  z105 := Tryz.sizeOf210
  v105 := Tryz.zeroValue210
  t119 := Tryz.underlying242
  a119 := Tryz.isAgg242
  z119 := Tryz.sizeOf242
  t138 := Tryz.underlying244
  a138 := Tryz.isAgg244
  z138 := Tryz.sizeOf244
  v138 := Tryz.zeroValue244
  t139 := Tryz.underlying245
  a139 := Tryz.isAgg245
  z139 := Tryz.sizeOf245
  v139 := Tryz.zeroValue245
  t146 := Tryz.underlying208
  a146 := Tryz.isAgg208
  z146 := Tryz.sizeOf208
  v146 := Tryz.zeroValue208
  g1 := by kernel_rfl
  g3 := by kernel_rfl
  g4 := by kernel_rfl }
open Go.RowKit Go.Lib in
/-- strings.Split. (LAID: no walk: one application.) -/
theorem Tryz.strings_Split (s sep : ByteArray) (m : Int) (w : World) (hs : s.size < 4294967281) (hm : w.cell? ⟨1, 0, none⟩ = some (.int .i64 m)) (h1 : 1 ≤ sep.size) :
    Calls Tryz.prog 112 #[.string s, .string sep] w fun e w' =>
      e = .returned (.slice (some ⟨w.heap.size, 0, none⟩) (Lib.countB s sep + 1) (Lib.countB s sep + 1)) ∧ w' = w.alloc (.cells ((Lib.splitB sep 0 (Lib.countB s sep) s).map Value.string).toArray 9) := Any.strings_Split Tryz.lays146 (by kernel_rfl) s sep m w hs hm h1
end Go.Proofs

namespace Go.Proofs.Dev
open Go.RowKit
set_option linter.unusedSimpArgs false
set_option maxRecDepth 100000

theorem maxLen_cell {w : World} {S : List Nat} {forb : Nat → Prop} (h : GB w S forb) : ∃ m : Int, w.cell? ⟨1, 0, none⟩ = some (.int .i64 m) := by
  obtain ⟨u, h1, m, rfl⟩ := h.cell (g := 1) (p := intP) (by simp [gps])
  exact ⟨m, h1⟩

theorem s_strings_Index (s t : List UInt8) (hs : s.length < 2 ^ 30) : SoundAt Tryz.prog 115 [.v (tx s), .v (tx t)] (.v (.int .i64 (Go.Lib.index s t))) [.bot, .bot] := by
  refine of_lib (xs := [tx s, tx t]) fun w S forb hg => ?_
  obtain ⟨m, hm⟩ := maxLen_cell hg
  refine (Tryz.strings_Index ⟨s.toArray⟩ ⟨t.toArray⟩ m w (by simp; omega) hm).mono ?_
  rintro e w' ⟨rfl, rfl⟩
  exact ⟨_, [], rfl, by rw [R]; exact ⟨rfl, rfl⟩, by simp, by simp, Kept.refl _ _ _⟩

theorem s_strings_Cut (s : List UInt8) (c : UInt8) (hs : s.length < 2 ^ 30) : SoundAt Tryz.prog 51 [.v (tx s), .v (tx [c])] (.tup [.v (tx (Go.Lib.cut s [c]).1), .v (tx (Go.Lib.cut s [c]).2.1), .v (.bool (Go.Lib.cut s [c]).2.2)]) [.bot, .bot] := by
  refine of_lib (xs := [tx s, tx [c]]) fun w S forb hg => ?_
  obtain ⟨m, hm⟩ := maxLen_cell hg
  refine (Tryz.strings_Cut ⟨s.toArray⟩ ⟨[c].toArray⟩ m w (by simp; omega) hm).mono ?_
  rintro e w' ⟨rfl, n, rfl⟩
  refine ⟨_, [], rfl, ?_, by simp, by simp, ⟨rfl, rfl, rfl, Nat.le_refl _, fun _ _ _ => rfl, fun _ _ _ h => h⟩⟩
  rw [R]
  refine ⟨[_, _, _], rfl, ?_⟩
  rw [RL]; refine ⟨[], [], _, _, rfl, rfl, by rw [R]; exact ⟨rfl, rfl⟩, ?_⟩
  rw [RL]; refine ⟨[], [], _, _, rfl, rfl, by rw [R]; exact ⟨rfl, rfl⟩, ?_⟩
  rw [RL]; exact ⟨[], [], _, _, rfl, rfl, by rw [R]; exact ⟨rfl, rfl⟩, by rw [RL]; exact ⟨rfl, rfl⟩⟩

theorem s_strings_Split (s : List UInt8) (c : UInt8) (hs : s.length < 2 ^ 30) : SoundAt Tryz.prog 112 [.v (tx s), .v (tx [c])] (.os 1 (txs (cutL c s))) [.bot, .bot] := by
  refine of_lib (xs := [tx s, tx [c]]) fun w S forb hg => ?_
  obtain ⟨m, hm⟩ := maxLen_cell hg
  refine (Tryz.strings_Split ⟨s.toArray⟩ ⟨[c].toArray⟩ m w (by simp; omega) hm (by simp)).mono ?_
  rintro e w' ⟨rfl, rfl⟩
  have hb := splitB_cut c s
  have hl := Go.Lib.splitB_all ⟨[c].toArray⟩ (by simp) 0 _ ⟨s.toArray⟩ rfl
  have hlen : Go.Lib.countB ⟨s.toArray⟩ ⟨[c].toArray⟩ + 1 = (cutL c s).length := by
    have := congrArg List.length hb
    simp only [List.length_map] at this
    rw [← this, hl]
  rw [hb, hlen]
  have hcell : ∀ j u, ((cutL c s).map tx)[j]? = some u → (w.alloc (.cells ((cutL c s).map tx).toArray 9)).cell? ⟨w.heap.size, 0 + j, none⟩ = some u := by
    intro j u hj
    have e : (w.alloc (.cells ((cutL c s).map tx).toArray 9)).heap[w.heap.size]? = some (.cells ((cutL c s).map tx).toArray 9) := by
      show (w.heap.push _)[w.heap.size]? = _
      simp
    simp only [World.cell?, e, Nat.zero_add]
    simpa using hj
  refine ⟨_, [w.heap.size], rfl, ?_, by simp, ?_, ?_⟩
  · rw [R]
    refine ⟨some ⟨w.heap.size, 0, none⟩, (cutL c s).length, by rw [txs_length], by rw [txs_length]; exact Nat.le_refl _, ?_⟩
    right
    refine ⟨by omega, w.heap.size, 0, (cutL c s).map tx, [], rfl, rfl, ?_, ?_, hcell, sized_txs _, by rw [flatE_txs]; exact RL_txs _ _⟩
    · show w.heap.size < (w.heap.push _).size
      simp
    · intro j hj
      have hj' : j < (cutL c s).length := by omega
      refine ⟨⟨tx (cutL c s)[j], hcell j _ (by simp [hj'])⟩, ?_⟩
      have e : (w.alloc (.cells ((cutL c s).map tx).toArray 9)).heap[w.heap.size]? = some (.cells ((cutL c s).map tx).toArray 9) := by
        show (w.heap.push _)[w.heap.size]? = _
        simp
      show (w.alloc (.cells ((cutL c s).map tx).toArray 9)).frozen? ⟨w.heap.size, 0 + j, none⟩ = false
      simp only [World.frozen?, e]
      simp
  · intro x hx
    simp at hx
    subst hx
    exact ⟨by show w.heap.size < (w.heap.push _).size; simp, Nat.le_refl _⟩
  · exact ⟨rfl, rfl, rfl, by show w.heap.size ≤ (w.heap.push _).size; simp, fun k hk _ => heapOld w _ k hk, fun _ _ _ h => room_alloc h⟩

end Go.Proofs.Dev

namespace Go.Proofs.Dev
open Go.RowKit
set_option linter.unusedSimpArgs false
set_option maxRecDepth 100000

theorem cutL_le (c : UInt8) : ∀ s : List UInt8, (cutL c s).length ≤ s.length + 1
  | [] => by simp [cutL]
  | x :: s => by
    have := cutL_le c s
    rw [cutL]
    split
    · simp; omega
    · obtain ⟨p, ps, h⟩ := cutL_cons c s
      rw [h] at this ⊢
      simp at this ⊢; omega

end Go.Proofs.Dev

namespace Go.Proofs.Dev
open Go.RowKit
set_option linter.unusedSimpArgs false
set_option maxRecDepth 100000

end Go.Proofs.Dev

namespace Go.Proofs.Dev
open Go.RowKit
set_option linter.unusedSimpArgs false
set_option maxRecDepth 100000

abbrev rdH (ps : List (List UInt8)) (a b c : Int) : Heap := [some (.box [.v (.int .i64 0), .v (.int .i64 0), .v (.int .i64 0)]), some (.arr 1 (txs ps)), some (.box [.v (.int .i64 a), .v (.int .i64 b), .v (.int .i64 c)])]

def deedO (d : Int × Int × Int) (b : Bool) : AV := .tup [deedA d, .v (.bool b)]

end Go.Proofs.Dev

namespace Go.Proofs.Dev
open Go.RowKit
set_option linter.unusedSimpArgs false
set_option maxRecDepth 100000

theorem s_strconv_Atoi (s : List UInt8) (hs : s.length < 2 ^ 30) : SoundAt Tryz.prog 114 [.v (tx s)] (.tup [.v (.int .i64 (atoiV s)), .bot]) [.bot] := by
  refine of_lib (xs := [tx s]) fun w S forb hg => ?_
  have tup : ∀ (w' : World) (n : Int) (u : Value), R (cout w' [] forb) (.tup [.v (.int .i64 n), .bot]) [] (.tuple #[.int .i64 n, u]) := by
    intro w' n u
    rw [R]
    refine ⟨[_, _], rfl, ?_⟩
    rw [RL]; refine ⟨[], [], _, _, rfl, rfl, by rw [R]; exact ⟨rfl, rfl⟩, ?_⟩
    rw [RL]; exact ⟨[], [], _, _, rfl, rfl, by rw [R], by rw [RL]; exact ⟨rfl, rfl⟩⟩
  rcases h : Go.Lib.atoiAll s with v | _ | _
  ·
    have e : atoiV s = v := by simp [atoiV, h]
    rw [e]
    refine (Tryz.strconv_Atoi_ok ⟨s.toArray⟩ (by simp; omega) v h w).mono ?_
    rintro e w' ⟨rfl, hw⟩
    refine ⟨_, [], rfl, tup _ _ _, by simp, by simp, ?_⟩
    rcases hw with rfl | ⟨t, rfl⟩
    · exact Kept.refl _ _ _
    · exact kept_of_below _ (Go.Lib.bytesWorld_below _ _ _)
  ·
    have e : atoiV s = 0 := by simp [atoiV, h]
    rw [e]
    obtain ⟨ev, h1, h2⟩ := hg.cell (g := 2) (p := errP) (by simp [gps])
    refine (Any.strconv_Atoi_syntax Tryz.laysC172 ⟨s.toArray⟩ (by simp; omega) h ev w h1 h2).mono ?_
    rintro e w' ⟨N, rfl, _, _, hb⟩
    exact ⟨_, [], rfl, tup _ _ _, by simp, by simp, kept_of_below _ hb⟩
  ·
    have e : atoiV s = Go.Lib.atoiSat s := by simp [atoiV, h]
    rw [e]
    obtain ⟨ev, h1, h2⟩ := hg.cell (g := 3) (p := errP) (by simp [gps])
    refine (Tryz.strconv_Atoi_range ⟨s.toArray⟩ (by simp; omega) h ev w h1 h2).mono ?_
    rintro e w' ⟨N, rfl, _, _, hb⟩
    exact ⟨_, [], rfl, tup _ _ _, by simp, by simp, kept_of_below _ hb⟩

/-- Where a word stands among words. -/
def idxT (x : List UInt8) : List (List UInt8) → Nat → Int
  | [], _ => -1
  | p :: ps, i => if x = p then i else idxT x ps (i + 1)

theorem idxT_drop {ls : List (List UInt8)} {x : List UInt8} {k : Nat} (h : k < ls.length) : idxT x (ls.drop k) k = if x = ls[k] then (k : Int) else idxT x (ls.drop (k + 1)) (k + 1) := by
  rw [List.drop_eq_getElem_cons h, idxT]

theorem att_at {ls : List (List UInt8)} {k : Nat} (h : k < ls.length) : att ls (k : Int) = ls[k] := by simp [att, h]

theorem s_slices_IndexT (ls : List (List UInt8)) (x : List UInt8) (hl : ls.length < 2 ^ 30) : SoundAt Tryz.prog n_slices_Index_string_string [.sl 1 1 (txs ls), .v (tx x)] (.v (.int .i64 (idxT x ls 0))) [.bot, .bot] := by
  refine fn_ok (md := mdT) (ms := [false, false]) k_slices_Index_string_string (by simp) ?_
  simp [c_slices_Index_string_string]
  refine loop_by (fun m E H => ∃ k : Nat, m = ls.length - k ∧ k ≤ ls.length ∧ idxT x (ls.drop k) k = idxT x ls 0 ∧ H = [] ∧ E = [(0, .sl 1 1 (txs ls)), (1, .v (tx x)), (7, .v (.int .i64 ls.length)), (8, .v (.int .i64 (k : Int)))]) ls.length ⟨0, by simp⟩ ?_
  rintro J hJ m E H ⟨k, rfl, hk, hd, rfl, rfl⟩
  by_cases h : k < ls.length
  · rw [idxT_drop h] at hd
    by_cases hx : x = ls[k]
    · rw [if_pos hx] at hd
      rw [← hd]
      simp [c_slices_Index_string_string_L0, h, att_at h, ← hx]
    · rw [if_neg hx] at hd
      have nx := hJ (ls.length - (k + 1)) [(0, .sl 1 1 (txs ls)), (1, .v (tx x)), (7, .v (.int .i64 ls.length)), (8, .v (.int .i64 ((k : Int) + 1)))] [] ⟨k + 1, rfl, by omega, hd, rfl, by simp⟩
      simp [c_slices_Index_string_string_L0, h, att_at h, hx]
      exact ⟨⟨by omega, by omega⟩, _, by omega, nx⟩
  · have hk' : k = ls.length := by omega
    subst hk'
    rw [List.drop_length] at hd
    rw [← hd]
    simp [c_slices_Index_string_string_L0, idxT]

end Go.Proofs.Dev

namespace Go.Proofs.Dev
open Go.RowKit
set_option linter.unusedSimpArgs false
set_option maxRecDepth 100000

/-- How the program goes on, and ends. -/
def c_impl_ReadDeed_Z : ACode := .seq (.seq (.reg [.la 38 3 5, .o 39 (.call 20 []) [.t 38], .m 40 0, .o 41 (.bin .neq 1) [.t 39, .t 40]]) <|
 .cond (.t 41) ( .seq (.reg [.o 42 (.build dz []) [], .s (.store 3) [.t 2, .t 42], .o 3 .mv [.kb false]]) <| .ret) ( .skip)) <| .seq (.reg [.la 43 3 5,
 .s (.store 3) [.t 2, .t 43], .o 3 .mv [.kb true]]) <| .ret

def c_impl_ReadDeed_Y : ACode := .seq (.seq (.reg [.m 29 4, .n 30 29, .o 31 (.bin .gtr 0) [.t 30, .k 2]]) <| .cond (.t 31) ( .reg [.m 32 4,
 .o 33 (.iadr 1) [.t 32, .k 2], .l 34 33, .o 35 (.call 115 []) [.c (.v (.string ⟨#[35, 101, 110, 119, 115]⟩)), .t 34], .o 36 (.mnx false) [.k 0, .t 35],
 .f 37 2 5, .s (.store 1) [.t 37, .t 36]]) ( .skip)) <| c_impl_ReadDeed_Z

def c_impl_ReadDeed_X : ACode := .seq (.seq (.reg [.f 14 0 5, .l 15 14, .o 16 (.bin .lss 0) [.t 15, .k 0]]) <|
 .cond (.t 16) ( .seq (.reg [.o 17 (.build dz []) [], .s (.store 3) [.t 2, .t 17], .o 3 .mv [.kb false]]) <| .ret) ( .skip)) <| .seq (.seq (.reg [.m 18 4,
 .n 19 18, .o 20 (.bin .gtr 0) [.t 19, .k 1]]) <| .cond (.t 20) ( .reg [.m 22 4, .o 23 (.iadr 1) [.t 22, .k 1], .l 24 23, .o 25 (.call 114 []) [.t 24], .m 21 25,
 .e 26 0 21, .e 27 1 21, .f 28 1 5, .s (.store 1) [.t 28, .t 26]]) ( .skip)) <| c_impl_ReadDeed_Y
theorem rd_X : c_impl_ReadDeed_T0 = c_impl_ReadDeed_X := rfl

abbrev wordsT : List (List UInt8) := [[108, 97, 121], [108, 105, 102, 116], [102, 108, 105, 112], [102, 111, 114, 99, 101], [98, 97, 99, 107]]
abbrev signT : List UInt8 := [35, 101, 110, 119, 115]
theorem idx_kind (x : List UInt8) : idxT x wordsT 0 = kindT x := by
  simp only [idxT, kindT, wordK]
  simp

/-- The deed of a text, by the program. -/
def deedI (s : List UInt8) : Int × Int × Int := let ps := cutL 32 s; (kindT (nth ps 0), if 1 < ps.length then atoiV (nth ps 1) else 0, if 2 < ps.length then max 0 (Go.Lib.index signT (nth ps 2)) else 0)

theorem imp_fin : ∀ k : _root_.Fin 5, ∀ s : _root_.Fin 100, ∀ w : _root_.Fin 5, (if txtOk ((k.val : Int), (s.val : Int), (w.val : Int)) then decide (deedI (dText ((k.val : Int), (s.val : Int), (w.val : Int))) = ((k.val : Int), (s.val : Int), (w.val : Int))) else true) = true := by decide +kernel

theorem imp_text {d : Int × Int × Int} (h : txtOk d = true) : deedI (dText d) = d := by
  obtain ⟨k, s, w⟩ := d
  obtain ⟨k', s', w', rfl, rfl, rfl⟩ := txt_range h
  have := imp_fin k' s' w'
  rw [if_pos h] at this
  simpa using this

theorem imp_read (s : List UInt8) : (decide (dText (deedI s) = s) && decide (s ≠ [])) = readB s ∧ (readB s = true → deedI s = readD s) := read_any fun e he hs => by rw [hs]; exact imp_text he

theorem kind_no {s : List UInt8} (h : kindT (nth (cutL 32 s) 0) < 0) : readB s = false := by
  cases hr : readB s with
  | false => rfl
  | true =>
    obtain ⟨h1, h2⟩ := text_read hr
    have h3 := (imp_read s).2 hr
    have h4 : (deedI s).1 = kindT (nth (cutL 32 s) 0) := rfl
    rw [h3] at h4
    obtain ⟨k', s', w', e1, e2, e3⟩ := txt_range (k := (readD s).1) (s := (readD s).2.1) (w := (readD s).2.2) h2
    omega

theorem kind_nil {s : List UInt8} (h : ¬ kindT (nth (cutL 32 s) 0) < 0) : s ≠ [] := by
  rintro rfl
  exact h (by decide)

set_option maxHeartbeats 8000000 in
theorem s_impl_ReadDeed (s : List UInt8) (hs : s.length < 2 ^ 30) : SoundAt Tryz.prog n_impl_ReadDeed [.v (tx s)] (deedO (readD s) (readB s)) [.bot] := by
  have cu := s_strings_Split s 32 hs
  have hlen := cutL_le 32 s
  obtain ⟨p, qs, hps⟩ := cutL_cons 32 s
  have h0 : 0 < (cutL 32 s).length := by rw [hps]; simp
  have dt := s_impl_DeedText (deedI s)
  have dx : deedI s = (kindT (nth (cutL 32 s) 0), if 1 < (cutL 32 s).length then atoiV (nth (cutL 32 s) 1) else 0, if 2 < (cutL 32 s).length then max 0 (Go.Lib.index signT (nth (cutL 32 s) 2)) else 0) := rfl
  have at1 := s_strconv_Atoi (nth (cutL 32 s) 1) (by have := nth_each 32 s 1; omega)
  have ix2 := s_strings_Index signT (nth (cutL 32 s) 2) (by simp)
  have id0 := s_slices_IndexT wordsT (nth (cutL 32 s) 0) (by simp)
  rw [idx_kind] at id0
  obtain ⟨r1, r2⟩ := imp_read s
  have kn := @kind_no s
  have kn0 := @kind_nil s
  have rdd : readD s = if readB s then deedS s else (0, 0, 0) := rfl
  refine fn_ok (md := mdT) (ms := [false]) k_impl_ReadDeed (by simp) ?_
  have T0 : ∀ E : ES, get E 0 = .v (tx s) → get E 2 = .lp 0 0 0 0 → get E 4 = .ls 1 1 0 (cutL 32 s).length → get E 5 = .lp 0 2 0 0 →
      awp Tryz.prog mdT c_impl_ReadDeed_T0 (Fin [RV.c 2 true 3, RV.t 3] 44 1 [false] (deedO (readD s) (readB s)) [AV.bot]) E (rdH (cutL 32 s) (kindT (nth (cutL 32 s) 0)) 0 0) := by
    intro E e0 e2 e4 e5
    rw [rd_X]
    generalize cutL 32 s = ps at *
    clear id0 cu
    by_cases hk : kindT (nth ps 0) < 0
    · have rb' := kn hk
      rw [rdd, rb']
      simp [c_impl_ReadDeed_X, e0, e2, e4, e5, hk, deedO, deedA]
    have hne := kn0 hk
    rw [decide_eq_true hne, Bool.and_true] at r1
    have fin : ∀ (E : ES) (b c : Int), (b = if 1 < ps.length then atoiV (nth ps 1) else 0) → (c = if 2 < ps.length then max 0 (Go.Lib.index signT (nth ps 2)) else 0) → get E 0 = .v (tx s) → get E 2 = .lp 0 0 0 0 → get E 5 = .lp 0 2 0 0 →
        awp Tryz.prog mdT c_impl_ReadDeed_Z (Fin [RV.c 2 true 3, RV.t 3] 44 1 [false] (deedO (readD s) (readB s)) [AV.bot]) E (rdH ps (kindT (nth ps 0)) b c) := by
      intro E b c hb hc e0 e2 e5
      rw [← hb, ← hc] at dx
      generalize kindT (nth ps 0) = a at *
      rw [dx] at dt r1 r2
      simp only [deedA] at dt
      generalize dText (a, b, c) = t at *
      by_cases ht : t = s
      · have rb' : readB s = true := by rw [← r1]; simp [ht]
        rw [← r2 rb', rb']
        simp [c_impl_ReadDeed_Z, e0, e2, e5]
        refine call_on dt ?_
        simp [ht, e0, e2, e5, deedO, deedA]
      · have rb' : readB s = false := by rw [← r1]; simp [ht]
        rw [rdd, rb']
        simp [c_impl_ReadDeed_Z, e0, e2, e5]
        refine call_on dt ?_
        simp [ht, e0, e2, e5, deedO, deedA]
    have mid : ∀ (E : ES) (b : Int), (b = if 1 < ps.length then atoiV (nth ps 1) else 0) → get E 0 = .v (tx s) → get E 2 = .lp 0 0 0 0 → get E 4 = .ls 1 1 0 ps.length → get E 5 = .lp 0 2 0 0 →
        awp Tryz.prog mdT c_impl_ReadDeed_Y (Fin [RV.c 2 true 3, RV.t 3] 44 1 [false] (deedO (readD s) (readB s)) [AV.bot]) E (rdH ps (kindT (nth ps 0)) b 0) := by
      intro E b hb e0 e2 e4 e5
      by_cases h2 : 2 < ps.length
      · have h2' : (2 : Int) < (ps.length : Int) := by omega
        have hg2 : ps[2] = nth ps 2 := by simp [nth, h2]
        rw [if_pos h2] at fin
        simp [c_impl_ReadDeed_Y, e0, e2, e4, e5, h2, h2', hg2]
        refine call_on ix2 ?_
        simp [e0, e2, e4, e5]
        refine fin _ _ _ hb ?_ ?_ ?_ ?_
        · split <;> omega
        all_goals simp [get, e0, e2, e5]
      · have h2' : ¬ (2 : Int) < (ps.length : Int) := by omega
        rw [if_neg h2] at fin
        simp [c_impl_ReadDeed_Y, e0, e2, e4, e5, h2, h2']
        refine fin _ _ _ hb rfl ?_ ?_ ?_ <;> simp [get, e0, e2, e5]
    by_cases h1 : 1 < ps.length
    · have h1' : (1 : Int) < (ps.length : Int) := by omega
      have hg1 : ps[1] = nth ps 1 := by simp [nth, h1]
      rw [if_pos h1] at mid
      simp [c_impl_ReadDeed_X, e0, e2, e4, e5, hk, h1, h1', hg1]
      refine call_on at1 ?_
      simp [e0, e2, e4, e5]
      refine mid _ _ rfl ?_ ?_ ?_ ?_ <;> simp [get, e0, e2, e4, e5]
    · have h1' : ¬ (1 : Int) < (ps.length : Int) := by omega
      rw [if_neg h1] at mid
      simp [c_impl_ReadDeed_X, e0, e2, e4, e5, hk, h1, h1']
      refine mid _ _ rfl ?_ ?_ ?_ ?_ <;> simp [get, e0, e2, e4, e5]
  simp [c_impl_ReadDeed]
  refine call_on cu ?_
  generalize cutL 32 s = ps at *
  have hg0 : ps[0] = nth ps 0 := by simp [nth, h0]
  simp [h0, hg0]
  (repeat' first | omega | apply And.intro) <;>
  · refine call_on id0 ?_
    simp [txs]
    exact T0 _ rfl rfl rfl rfl

end Go.Proofs.Dev
